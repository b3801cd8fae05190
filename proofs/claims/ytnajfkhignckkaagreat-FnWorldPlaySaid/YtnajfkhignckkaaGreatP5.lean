/- What the law leans on, part 5. -/
import Derived.Test.YtnajfkhignckkaaGreatP4
set_option linter.unusedVariables false
set_option linter.unusedSimpArgs false
set_option linter.unnecessarySimpa false
namespace Go.Proofs.YtnajfkhignckkaaGreat
open Go
open Option renaming bind_some->e9P,map_some->f0M,getD_some->f0X
open List renaming getElem?_eq_getElem->e9Q,replicate->e9R,mem_append->e9S,getElem_mem->e9T,getElem?_eq_some_iff->e9W,all_eq_true->e9Y,range->e91,mem_singleton->e92,eq_nil_of_length_eq_zero->e93,length_append->e94,append_assoc->e95,mem_of_getElem?->e96,drop_eq_nil_of_le->e97,mem_or_eq_of_mem_set->f0b,getElem?_set_ne->f0c,drop_eq_getElem_cons->f0e,flatten_cons->f0g,length_take->f0i,getD_eq_getElem?_getD->f0j,getElem?_eq_none->f0l,map_cons->f0m,mem_map->f0n,take_succ_eq_append_getElem->f0o,take_of_length_le->f0q,take_length->f0r,mem_replicate->f0s,take_zero->f0v,any_eq_false->f0w,append_nil->f0x,length_set->f0B,mem_of_mem_take->f0D,mem_filter->f0E,length_cons->f0F,mem_flatten->f0G,nil_append->f0I,mem_of_mem_drop->f0J,mem_range->f0K,length_singleton->f0O,drop_zero->f0S,getElem?_set_self->f0V,findIdx?_eq_some_iff_getElem->f0W,length_map->f00,getElem?_cons_succ->f01,getElem?_of_mem->f07,any_eq_true->f1d,take_succ_cons->f1e,replicate_succ->f1f,map_map->f1o,mem_cons_of_mem->f1u,length_nil->f1x,findIdx?_eq_none_iff->f1y
open Bool renaming and_eq_true->e9U,not_true->e9V,true_and->e99,not_false->f0a,false_or->f0t,not_eq_true'->f0L,false_eq_true->f0Q,and_true->f0R,true_or->f1r,or_eq_false_iff->f1v,false_and->f1B
open Int renaming tmod->e9Z,toNat_natCast->f0k
open Nat renaming mul_le_mul_right->f0d,le_trans->f0f,le_refl->f0u,zero_add->f0A,succ_mul->f0C,add_zero->f04
noncomputable section
section
variable {l:List q9} {regs:List Int} {rs:List s1} {ps:List p9} {k:Nat} {i:r9}
theorem c0W(h:regs.length=4):(G0 l i regs rs ps).1.length=4:=by
 unfold G0;cases i.a6==1<;>cases i.a6==2<;>cases i.a6==3<;>cases i.a6==4<;>cases i.a6==5<;>simp only [f1C,f1D,f0B,h]
 all_goals
  split
  ·split<;>simp [h]
  ·split<;>simp [h]
theorem c6L(h:rs.length<=k):(G0 l i regs rs ps).2.1.length<=k+1:=by
 unfold G0;cases i.a6==1<;>cases i.a6==2<;>cases i.a6==3<;>cases i.a6==4<;>cases i.a6==5<;>simp only [f1C,f1D]<;>try omega
 all_goals
  split
  ·split<;>(simp only;omega)
  ·split
   ·cases L3 rs i.B<;>simp only [f1C,f1D,e94,f0O]<;>omega
   ·simp only;omega
theorem c5t(h:ps.length<=k):(G0 l i regs rs ps).2.2.length<=k+1:=by
 unfold G0;cases i.a6==1<;>cases i.a6==2<;>cases i.a6==3<;>cases i.a6==4<;>cases i.a6==5<;>simp only [f1C,f1D]<;>try omega
 all_goals (repeat' split)
 all_goals (try simp only [f0B,e94,f0O])
 all_goals omega
theorem EI.next(h:EI regs rs ps k)(ha:(G0 l i regs rs ps).1.all H0=true):EI (G0 l i regs rs ps).1 (G0 l i regs rs ps).2.1 (G0 l i regs rs ps).2.2 (k+1):=
 ⟨c0W h.len,ha,c6L h.rl,c5t h.pl⟩
theorem b7q{x:Int}(h:-1000000<=x/\x<=1000000){y:Int}(h':-1000000<=y/\y<=1000000):m4 (x+y)=x+y/\m4 (x-y)=x-y:=⟨B9 (by omega) (by omega),B9 (by omega) (by omega)⟩
theorem e4G(hl:F7 l=true)(he:EI regs rs ps k)(hk:k<=100)(hi:L8 i=true)(h6:i.a6≠6)(h7:i.a6≠7) :
  a5Y l ⟨rs,ps,0,0⟩ regs i=some (⟨(G0 l i regs rs ps).2.1,(G0 l i regs rs ps).2.2,0,bif (G0 l i regs rs ps).1.all H0 then 0 else 2⟩,(G0 l i regs rs ps).1):=by
 have hfr:=he.fr hk;have hfp:=he.fp hk;have hrl:=he.rl;have hpl:=he.pl;have n1:(rs.length+1)*16<=140737488355328:=by omega
 have n2:(ps.length+1)*16<=140737488355328:=by omega
 have fin:∀(a v:Int) (rs':List s1) (ps':List p9),0<=a/\a<=3->i.a6≠2->i.A=a->a2X i (regs.set a.toNat v) rs' ps' 0 0=some (⟨rs',ps',0,bif (regs.set a.toNat v).all H0 then 0 else 2⟩,regs.set a.toNat v):=by
  intro a v rs' ps' ha h2 hia;unfold a2X a8i;rw [show (i.a6 != 2)=true from by simpa using h2,f1C,hia,K4 (by simpa using he.len) ha,e9P,a6d,e9P,e9c he.len ha,e1x he.len he.rng ha];unfold H0;cases q8 v (-1000000) 1000000<;>rfl
 unfold a5Y G0;rcases a7Z hi with ⟨h,ha,hb⟩|⟨h,ha,hb⟩|⟨h,ha,hn⟩|⟨h,ha,hb⟩|⟨h,ha,hb⟩|⟨h,_⟩|⟨h,_⟩
 ·simp only [h,show ((1:Int)==1)=true from rfl,f1C];unfold b09 b3e;rw [c9U hfp,e9P];cases hp:Y2 ps i.B with
  | some j=>
   have hj:=b0P hp;simp only [b74,f1C,e9Q hj];simp only [atI,u6 hj,e9P,K4 he.len ha,l8.go];exact fin i.A _ rs ps ha (by omega) rfl
  | none=>
   obtain ⟨b,hb1,hb2,_⟩:=a4C hl hb;simp only [b43,f1D,b87 hfr,e9P,hb1,hb2,t6 n1];cases hs:L3 rs i.B
   ·simp only [f0a,f1C,f1D,e9P,l8.go,hb1,K4 he.len ha];exact fin i.A _ _ _ ha (by omega) rfl
   ·simp only [e9V,f1C,f1D,e9P,l8.go,hb1,K4 he.len ha];exact fin i.A _ _ _ ha (by omega) rfl
 ·simp only [h,show ((2:Int)==1)=false from rfl,show ((2:Int)==2)=true from rfl,f1C,f1D,K4 he.len hb,e9P];unfold b0t;rw [c9U hfp,e9P];have fin2:∀ps':List p9,a2X i regs rs ps' 0 0=some (⟨rs,ps',0,bif regs.all H0 then 0 else 2⟩,regs):=by
   intro ps';unfold a2X a8i;rw [he.rng,h];rfl
  cases hp:Y2 ps i.A with
  | some j=>
   have hj:=b0P hp;simp only [b74,f1C,e9Q hj];simp only [atI,u6 hj,e9P,l8.go,f0k];exact fin2 _
  | none=>
   simp only [b43,f1D,t6 n2,e9P,l8.go];exact fin2 _
 ·simp only [h,show ((3:Int)==1)=false from rfl,show ((3:Int)==2)=false from rfl,show ((3:Int)==3)=true from rfl,f1C,f1D,K4 he.len ha,e9P,l8.go];exact fin i.A _ _ _ ha (by omega) rfl
 ·simp only [h,show ((4:Int)==1)=false from rfl,show ((4:Int)==2)=false from rfl,show ((4:Int)==3)=false from rfl,show ((4:Int)==4)=true from rfl,f1C,f1D,K4 he.len ha,K4 he.len hb,e9P,l8.go,(b7q (a1W he.len he.rng ha) (a1W he.len he.rng hb)).1];exact fin i.A _ _ _ ha (by omega) rfl
 ·simp only [h,show ((5:Int)==1)=false from rfl,show ((5:Int)==2)=false from rfl,show ((5:Int)==3)=false from rfl,show ((5:Int)==4)=false from rfl,show ((5:Int)==5)=true from rfl,f1C,f1D,K4 he.len ha,K4 he.len hb,e9P,l8.go,(b7q (a1W he.len he.rng ha) (a1W he.len he.rng hb)).2];exact fin i.A _ _ _ ha (by omega) rfl
 ·exact absurd h h6
 ·exact absurd h h7
theorem d3S(hi:i.a6=7)(ha:i.A=0)(he:EI regs rs ps k):a5Y l ⟨rs,ps,0,0⟩ regs i=some (⟨rs,ps,0,1⟩,regs):=by
 have hin:=a1W he.len he.rng (a:=0) (by omega);unfold a5Y a2X a8i;simp only [hi,ha,show ((7:Int)==1)=false from rfl,show ((7:Int)==2)=false from rfl,show ((7:Int)==3)=false from rfl,show ((7:Int)==4)=false from rfl,show ((7:Int)==5)=false from rfl,show ((7:Int)==7)=true from rfl,show ((7:Int) != 2)=true from rfl,f1C,f1D,e9P,l8.go,K4 he.len (a:=0) (by omega),a6d];rw [show q8 (I1 regs 0) (-1000000) 1000000=true from by simp [q8];exact hin];rfl
theorem c7I(l:List q9){prog:List r9}{f k:Nat}{regs:List Int}{rs:List s1}{ps:List p9}(h:prog.length<=k):a0S l prog f k regs rs ps=⟨rs,ps,I1 regs 0,0⟩:=by
 cases f with
 | zero=>rfl
 | succ f=>
  unfold a0S;rw [f0l h]
theorem b8V{prog:List r9}(hp:D6 prog=true):prog.length<=10/\∀i∈prog,L8 i=true:=by
 unfold D6 at hp;simpa using hp
theorem c9N(l:List q9)(prog:List r9)(regs:List Int)(rs:List s1)(ps:List p9)(k c:Int)(hc:(c==0)=false) :
  ((s2 (fun s:(List Int)×(List s1)×(List p9)×Int×Int×Int=>a0m l prog s.1 s.2.1 s.2.2.1 s.2.2.2.1 s.2.2.2.2.1 s.2.2.2.2.2) (regs,rs,ps,k,0,c)).bind fun x=>x.go (fun r=>some r) fun s=>a5V s.1 s.2.1 s.2.2.1 s.2.2.2.1 s.2.2.2.2)=some ⟨rs,[],0,c⟩:=by
 rw [D7 (b:=(rs,ps,regs,0,c))]
 ·simp only [e9P,l8.go];unfold a5V;rw [bne,hc];rfl
 ·unfold a0m;simp only [hc,f1D];cases decide (k<(prog.length:Int))<;>rfl
theorem d4y(hl:F7 l=true){prog:List r9}(hp:D6 prog=true):∀(f k:Nat) (regs:List Int) (rs:List s1) (ps:List p9),EI regs rs ps k->prog.length<k+f->k<=prog.length+10->
  ((s2 (fun s:(List Int)×(List s1)×(List p9)×Int×Int×Int=>a0m l prog s.1 s.2.1 s.2.2.1 s.2.2.2.1 s.2.2.2.2.1 s.2.2.2.2.2) (regs,rs,ps,(k:Int),0,0)).bind fun x=>x.go (fun r=>some r) fun s=>a5V s.1 s.2.1 s.2.2.1 s.2.2.2.1 s.2.2.2.2)=some (a0S l prog f k regs rs ps):=by
 obtain ⟨hlen,hins⟩:=b8V hp;intro f;induction f with
 | zero=>
  intro k regs rs ps he hf hk;rw [D7 (b:=(rs,ps,regs,0,0))]
  ·simp only [e9P,l8.go];unfold a5V;rw [show ((0:Int) != 0)=false from rfl,f1D,K4 he.len (a:=0) (by omega)];rfl
  ·unfold a0m;rw [show decide ((k:Int)<(prog.length:Int))=false from by simp;omega];rfl
 | succ f ih=>
  intro k regs rs ps he hf hk;by_cases hlt:k<prog.length
  ·have hi:=hins _ (e9T hlt);unfold a0S;rw [e9Q hlt];simp only;by_cases h6:prog[k].a6=6
   ·obtain ⟨ha,hb,hn⟩:(0<=prog[k].A/\prog[k].A<=3)/\(0<=prog[k].B/\prog[k].B<=3)/\1<=prog[k].N/\prog[k].N<=10:=by
     rcases a7Z hi with ⟨h,_⟩|⟨h,_⟩|⟨h,_⟩|⟨h,_⟩|⟨h,_⟩|⟨h,x⟩|⟨h,_⟩
     all_goals first|(exact x)|(exfalso;omega)
    have hb1:a0m l prog regs rs ps (k:Int) 0 0=some (.nxt (regs,rs,ps,((bif decide (I1 regs prog[k].A<I1 regs prog[k].B) then k+prog[k].N.toNat+1 else k+1:Nat):Int),0,0)):=by
     unfold a0m b5B;rw [z0 _ k hlt,u6 hlt];simp only [f1C,e9P,h6,show ((6:Int)==6)=true from rfl,show ((0:Int)==0)=true from rfl,K4 he.len ha,K4 he.len hb];cases decide (I1 regs prog[k].A<I1 regs prog[k].B)
     ·simp only [f1D,e9P,l8.go];rw [B9 (by omega) (by omega)];rfl
     ·simp only [f1C,e9P,l8.go];rw [B9 (n:=(k:Int)+prog[k].N) (by omega) (by omega),B9 (by omega) (by omega),show ((k+prog[k].N.toNat+1:Nat):Int)=(k:Int)+prog[k].N+1 from by omega]
    rw [F4 hb1,h6];simp only [show ((6:Int)==6)=true from rfl,f1C];refine ih _ _ _ _ ⟨he.len,he.rng,?_,?_⟩ ?_ ?_;all_goals
     have h1:=he.rl;have h2:=he.pl;cases decide (I1 regs prog[k].A<I1 regs prog[k].B)<;>simp only [f1C,f1D]<;>omega
   by_cases h7:prog[k].a6=7
   ·have ha:prog[k].A=0:=by
     rcases a7Z hi with ⟨h,_⟩|⟨h,_⟩|⟨h,_⟩|⟨h,_⟩|⟨h,_⟩|⟨h,_⟩|⟨h,x⟩
     all_goals first|(exact x)|(exfalso;omega)
    have hb1:a0m l prog regs rs ps (k:Int) 0 0=some (.nxt (regs,rs,ps,m4 ((k:Int)+1),0,1)):=by
     unfold a0m;rw [z0 _ k hlt,u6 hlt];simp only [f1C,e9P,show ((0:Int)==0)=true from rfl,d3S h7 ha he,h7,show ((7:Int)==6)=false from rfl,f1D];rw [t6 trivial]
    rw [F4 hb1,c9N _ _ _ _ _ _ _ rfl,h7];rfl
   ·have hs:=e4G hl he (by omega) hi h6 h7;have hb1:a0m l prog regs rs ps (k:Int) 0 0=some (.nxt ((G0 l prog[k] regs rs ps).1,(G0 l prog[k] regs rs ps).2.1,(G0 l prog[k] regs rs ps).2.2,((k+1:Nat):Int),0,bif (G0 l prog[k] regs rs ps).1.all H0 then 0 else 2)):=by
     unfold a0m;rw [z0 _ k hlt,u6 hlt];simp only [f1C,e9P,show ((0:Int)==0)=true from rfl,hs,show (prog[k].a6==6)=false from by simpa using h6,f1D];rw [t6 (by rw [c0W he.len];exact he.len),B9 (by omega) (by omega)];rfl
    rw [F4 hb1,show (prog[k].a6==6)=false from by simpa using h6,show (prog[k].a6==7)=false from by simpa using h7,f1D,f1D];cases hall:(G0 l prog[k] regs rs ps).1.all H0
    ·rw [f1D,f1D,c9N _ _ _ _ _ _ _ rfl]
    ·rw [f1C,f1C];exact ih _ _ _ _ (he.next hall) (by omega) (by omega)
  ·rw [c7I l (by omega),D7 (b:=(rs,ps,regs,0,0))]
   ·simp only [e9P,l8.go];unfold a5V;rw [show ((0:Int) != 0)=false from rfl,f1D,K4 he.len (a:=0) (by omega)];rfl
   ·unfold a0m;rw [show decide ((k:Int)<(prog.length:Int))=false from by simp;omega];rfl
theorem ei0:EI [0,0,0,0] [] [] 0:=⟨rfl,by decide,by simp,by simp⟩
theorem e3s{l:List q9}{prog:List r9}(hl:u5 l)(hp:u5 prog):a69 l prog=some (C5 l prog):=by
 unfold a69 C5;rw [c0B hl,e9P,b6V hp,e9P];cases hb:F7 l
 ·rfl
 cases ho:D6 prog
 ·rfl
 rw [e9V,f1D,f1D,t6 (by decide)];have:=d4y hb ho (prog.length+1) 0 [0,0,0,0] [] [] ei0 (by omega) (by omega);exact this
theorem e6k{regs:List Int}{Reads1:List s1}{ins:r9}{put1:p9}(h:regs.length=4)(hr:Reads1.length<=1000):s2 (fun s:Int=>b3E regs Reads1 ins put1 s) 0=some (bif (regs.set ins.A.toNat put1.d9).all H0 then .brk () else .ret ⟨Reads1,[],0,2⟩):=by
 have hl:(regs.set ins.A.toNat put1.d9).length=4:=by simpa using h
 refine c2d (regs.set ins.A.toNat put1.d9) (by unfold u5;omega) H0 _ () (fun k hk => ?_) ?_
 ·have hk4:(k:Int)<4:=by omega
  unfold b3E;rw [decide_eq_true hk4,u6 hk,f1C,e9P,t6 hk4,M2,e9P,b3t hr];unfold H0;cases q8 (regs.set ins.A.toNat put1.d9)[k] (-1000000) 1000000<;>rfl
 ·unfold b3E;rw [hl];rfl
theorem d2a{regs:List Int}{Reads1:List s1}{ins:r9}{box:q9}(h:regs.length=4)(hr:Reads1.length<=1000):s2 (fun s:Int=>b3F regs ins Reads1 box s) 0=some (bif (regs.set ins.A.toNat box.d9).all H0 then .brk () else .ret ⟨Reads1,[],0,2⟩):=by
 have hl:(regs.set ins.A.toNat box.d9).length=4:=by simpa using h
 refine c2d (regs.set ins.A.toNat box.d9) (by unfold u5;omega) H0 _ () (fun k hk => ?_) ?_
 ·have hk4:(k:Int)<4:=by omega
  unfold b3F;rw [decide_eq_true hk4,u6 hk,f1C,e9P,t6 hk4,M2,e9P,b3t hr];unfold H0;cases q8 (regs.set ins.A.toNat box.d9)[k] (-1000000) 1000000<;>rfl
 ·unfold b3F;rw [hl];rfl
theorem b9x{regs:List Int}{Reads1:List s1}(h:regs.length=4)(hr:Reads1.length<=1000):s2 (fun s:Int=>b1e Reads1 regs s) 0=some (bif regs.all H0 then .brk () else .ret ⟨Reads1,[],0,2⟩):=by
 refine c2d regs (by unfold u5;omega) H0 _ () (fun k hk => ?_) ?_
 ·have hk4:(k:Int)<4:=by omega
  unfold b1e;rw [decide_eq_true hk4,u6 hk,f1C,e9P,t6 hk4,M2,e9P,b3t hr];unfold H0;cases q8 regs[k] (-1000000) 1000000<;>rfl
 ·unfold b1e;rw [h];rfl
theorem d92(hl:F7 l=true)(he:EI regs rs ps k)(hk:k<=100){prog:List r9}(hkl:k<prog.length)(hpl:prog.length<=10)(R:List s1)(P:List p9)(hi:L8 prog[k]=true)(h6:prog[k].a6≠6)(h7:prog[k].a6≠7) :
  a2x l prog regs R P rs ps (k:Int)=some (bif (G0 l prog[k] regs rs ps).1.all H0 then .nxt ((G0 l prog[k] regs rs ps).1,R,P,(G0 l prog[k] regs rs ps).2.1,(G0 l prog[k] regs rs ps).2.2,((k+1:Nat):Int)) else .ret ⟨(G0 l prog[k] regs rs ps).2.1,[],0,2⟩):=by
 have hfr:=he.fr hk;have hfp:=he.fp hk;have hrl:=he.rl;have hpl:=he.pl;have n1:(rs.length+1)*16<=140737488355328:=by omega
 have n2:(ps.length+1)*16<=140737488355328:=by omega
 have hw:m4 ((k:Int)+1)=((k+1:Nat):Int):=by rw [B9 (by omega) (by omega)];rfl
 have fin:∀(regs':List Int) (ps':List p9),regs'.length=4->a9K R P rs regs' ps' (k:Int)=some (bif regs'.all H0 then .nxt (regs',R,P,rs,ps',((k+1:Nat):Int)) else .ret ⟨rs,[],0,2⟩):=by
  intro regs' ps' h;unfold a9K b2m;rw [b9x h (by omega),hw];cases regs'.all H0<;>rfl
 have hset:∀(a:Nat) (v:Int),(regs.set a v).length=4:=fun a v=>by simpa using he.len
 unfold a2x G0;generalize hin:prog[k]=i at hi h6 h7;rw [z0 _ k hkl,u6 hkl,hin,f1C,e9P];rcases a7Z hi with ⟨h,ha,hb⟩|⟨h,ha,hb⟩|⟨h,ha,hn⟩|⟨h,ha,hb⟩|⟨h,ha,hb⟩|⟨h,_⟩|⟨h,_⟩
 ·have na:i.A<4:=by omega
  simp only [h,show ((1:Int)==1)=true from rfl,f1C];rw [c96 (x:=⟨rs,ps,0,0⟩) hfp,e9P];simp only;cases hp:Y2 ps i.B with
  | some j=>
   have hj:=b0P hp;simp only [b74,f1C,e9Q hj];simp only [atI,u6 hj,e9P,K4 he.len ha];rw [t6 na,e6k he.len (by omega)];unfold c1J;rw [hw];cases (regs.set i.A.toNat ps[j].d9).all H0<;>rfl
  | none=>
   obtain ⟨b,hb1,hb2,_⟩:=a4C hl hb;obtain ⟨v,hv1,hv2⟩:=d7x (x:=⟨rs,ps,0,0⟩) hfr i.B;simp only [b43,f1D,hv1,hv2,e9P,hb1,hb2,t6 n1];cases hs:L3 rs i.B
   ·simp only [f0a,f1C,f1D,e9P,l8.go];unfold b6t b55;rw [hb1,e9P,K4 he.len ha,e9P,t6 na,d2a he.len (by simp;omega),hw];cases (regs.set i.A.toNat b.d9).all H0<;>rfl
   ·simp only [e9V,f1C,f1D,e9P,l8.go];unfold b6t b55;rw [hb1,e9P,K4 he.len ha,e9P,t6 na,d2a he.len (by omega),hw];cases (regs.set i.A.toNat b.d9).all H0<;>rfl
 ·have nb:i.B<4:=by omega
  simp only [h,show ((2:Int)==1)=false from rfl,show ((2:Int)==2)=true from rfl,f1C,f1D];rw [c96 (x:=⟨rs,ps,0,0⟩) hfp,e9P];simp only;cases hp:Y2 ps i.A with
  | some j=>
   have hj:=b0P hp;simp only [b74,f1C,e9Q hj];simp only [atI,u6 hj,e9P,K4 he.len hb,f0k];rw [t6 nb];simp only [e9P,l8.go];exact fin _ _ he.len
  | none=>
   simp only [b43,f1D,e9P,K4 he.len hb];rw [t6 nb,t6 n2];simp only [e9P,l8.go];exact fin _ _ he.len
 ·have na:i.A<4:=by omega
  simp only [h,show ((3:Int)==1)=false from rfl,show ((3:Int)==2)=false from rfl,show ((3:Int)==3)=true from rfl,f1C,f1D,K4 he.len ha,e9P];rw [t6 na];simp only [e9P,l8.go];exact fin _ _ (hset _ _)
 ·have na:i.A<4:=by omega
  have nb:i.B<4:=by omega
  simp only [h,show ((4:Int)==1)=false from rfl,show ((4:Int)==2)=false from rfl,show ((4:Int)==3)=false from rfl,show ((4:Int)==4)=true from rfl,f1C,f1D,K4 he.len ha,K4 he.len hb,e9P,(b7q (a1W he.len he.rng ha) (a1W he.len he.rng hb)).1,t6 na,t6 nb,l8.go];exact fin _ _ (hset _ _)
 ·have na:i.A<4:=by omega
  have nb:i.B<4:=by omega
  simp only [h,show ((5:Int)==1)=false from rfl,show ((5:Int)==2)=false from rfl,show ((5:Int)==3)=false from rfl,show ((5:Int)==4)=false from rfl,show ((5:Int)==5)=true from rfl,f1C,f1D,K4 he.len ha,K4 he.len hb,e9P,(b7q (a1W he.len he.rng ha) (a1W he.len he.rng hb)).2,t6 na,t6 nb,l8.go];exact fin _ _ (hset _ _)
 ·exact absurd h h6
 ·exact absurd h h7
theorem d84(hl:F7 l=true){prog:List r9}(hp:D6 prog=true)(R:List s1)(P:List p9):∀(f k:Nat) (regs:List Int) (rs:List s1) (ps:List p9),EI regs rs ps k->prog.length<k+f->k<=prog.length+10->
  ((s2 (fun s:(List Int)×(List s1)×(List p9)×(List s1)×(List p9)×Int=>a2x l prog s.1 s.2.1 s.2.2.1 s.2.2.2.1 s.2.2.2.2.1 s.2.2.2.2.2) (regs,R,P,rs,ps,(k:Int))).bind fun x=>x.go (fun r=>some r) fun s=>b0w s.1 s.2.1 s.2.2.1 s.2.2.2.1 s.2.2.2.2)=some (a0S l prog f k regs rs ps):=by
 obtain ⟨hlen,hins⟩:=b8V hp;have stop:∀(k:Nat) (regs:List Int) (rs:List s1) (ps:List p9),EI regs rs ps k->prog.length<=k->k<=prog.length+10->((s2 (fun s:(List Int)×(List s1)×(List p9)×(List s1)×(List p9)×Int=>a2x l prog s.1 s.2.1 s.2.2.1 s.2.2.2.1 s.2.2.2.2.1 s.2.2.2.2.2) (regs,R,P,rs,ps,(k:Int))).bind fun x=>x.go (fun r=>some r) fun s=>b0w s.1 s.2.1 s.2.2.1 s.2.2.2.1 s.2.2.2.2)=some ⟨rs,ps,I1 regs 0,0⟩:=by
  intro k regs rs ps he h1 h2;have h3:=he.rl;have h4:=he.pl;rw [D7 (b:=(R,P,regs,rs,ps))]
  ·simp only [e9P,l8.go];unfold b0w;rw [b3t (by omega),e9P,d6Q (by omega),e9P,K4 he.len (a:=0) (by omega),e9P,t6 (by decide)]
  ·unfold a2x;rw [show decide ((k:Int)<(prog.length:Int))=false from by simp;omega];rfl
 intro f;induction f with
 | zero=>
  intro k regs rs ps he hf hk;exact stop k regs rs ps he (by omega) hk
 | succ f ih=>
  intro k regs rs ps he hf hk;by_cases hlt:k<prog.length
  ·have hi:=hins _ (e9T hlt);unfold a0S;rw [e9Q hlt];simp only;by_cases h6:prog[k].a6=6
   ·obtain ⟨ha,hb,hn⟩:(0<=prog[k].A/\prog[k].A<=3)/\(0<=prog[k].B/\prog[k].B<=3)/\1<=prog[k].N/\prog[k].N<=10:=by
     rcases a7Z hi with ⟨h,_⟩|⟨h,_⟩|⟨h,_⟩|⟨h,_⟩|⟨h,_⟩|⟨h,x⟩|⟨h,_⟩
     all_goals first|(exact x)|(exfalso;omega)
    have hrl:=he.rl;have hb1:a2x l prog regs R P rs ps (k:Int)=some (.nxt (regs,R,P,rs,ps,((bif decide (I1 regs prog[k].A<I1 regs prog[k].B) then k+prog[k].N.toNat+1 else k+1:Nat):Int))):=by
     have na:prog[k].A<4:=by omega
     have nb:prog[k].B<4:=by omega
     unfold a2x;rw [z0 _ k hlt,u6 hlt];simp only [f1C,e9P,h6,show ((6:Int)==1)=false from rfl,show ((6:Int)==2)=false from rfl,show ((6:Int)==3)=false from rfl,show ((6:Int)==4)=false from rfl,show ((6:Int)==5)=false from rfl,show ((6:Int)==6)=true from rfl,f1D,K4 he.len ha,K4 he.len hb,t6 na,t6 nb];cases decide (I1 regs prog[k].A<I1 regs prog[k].B)
     ·simp only [f1D,e9P,l8.go];unfold a9K b2m;rw [b9x he.len (by omega),he.rng,B9 (by omega) (by omega)];rfl
     ·simp only [f1C,e9P,l8.go];unfold a9K b2m;rw [b9x he.len (by omega),he.rng,B9 (n:=(k:Int)+prog[k].N) (by omega) (by omega),B9 (by omega) (by omega),show ((k+prog[k].N.toNat+1:Nat):Int)=(k:Int)+prog[k].N+1 from by omega];rfl
    rw [F4 hb1,h6];simp only [show ((6:Int)==6)=true from rfl,f1C];refine ih _ _ _ _ ⟨he.len,he.rng,?_,?_⟩ ?_ ?_;all_goals
     have h1:=he.rl;have h2:=he.pl;cases decide (I1 regs prog[k].A<I1 regs prog[k].B)<;>simp only [f1C,f1D]<;>omega
   by_cases h7:prog[k].a6=7
   ·have hrl:=he.rl;have hb1:a2x l prog regs R P rs ps (k:Int)=some (.ret ⟨rs,[],0,1⟩):=by
     unfold a2x;rw [z0 _ k hlt,u6 hlt];simp only [f1C,e9P,h7,show ((7:Int)==1)=false from rfl,show ((7:Int)==2)=false from rfl,show ((7:Int)==3)=false from rfl,show ((7:Int)==4)=false from rfl,show ((7:Int)==5)=false from rfl,show ((7:Int)==6)=false from rfl,show ((7:Int)==7)=true from rfl,f1D];rw [b3t (by omega)];rfl
    rw [Z4 hb1,h7];rfl
   ·have hb1:=d92 hl he (by omega) hlt hlen R P hi h6 h7;rw [show (prog[k].a6==6)=false from by simpa using h6,show (prog[k].a6==7)=false from by simpa using h7,f1D,f1D];cases hall:(G0 l prog[k] regs rs ps).1.all H0
    ·rw [hall,f1D] at hb1;rw [Z4 hb1];rfl
    ·rw [hall,f1C] at hb1;rw [F4 hb1,f1C];exact ih _ _ _ _ (he.next hall) (by omega) (by omega)
  ·rw [c7I l (by omega)];exact stop k regs rs ps he (by omega) hk
theorem d9E{l:List q9}{prog:List r9}(hl:u5 l)(hp:u5 prog):b63 l prog=some (C5 l prog):=by
 unfold b63 C5;rw [b7e hl,e9P,b7a hp,e9P];cases hb:F7 l
 ·rfl
 cases ho:D6 prog
 ·rfl
 rw [e9V,f1D,f1D];exact d84 hb ho [] [] (prog.length+1) 0 [0,0,0,0] [] [] ei0 (by omega) (by omega)
end
theorem e9j{l:List q9}{i:r9}{regs:List Int}{rs:List s1}{ps:List p9}(hl:F7 l=true)(h4:regs.length=4)(hr:regs.all H0=true)(hi:L8 i=true)(h1:a3g rs=true)(h2:a1y ps=true):a3g (G0 l i regs rs ps).2.1=true/\a1y (G0 l i regs rs ps).2.2=true:=by
 unfold G0;cases k1:i.a6==1
 ·simp only [f1D];cases k2:i.a6==2
  ·simp only [f1D];cases i.a6==3
   ·cases i.a6==4
    ·cases i.a6==5<;>exact ⟨h1,h2⟩
    ·exact ⟨h1,h2⟩
   ·exact ⟨h1,h2⟩
  ·simp only [f1C];unfold L8 at hi;rw [k1,k2] at hi;simp only [f1C,f1D,e9U,H4] at hi;have hv:=a1W h4 hr hi.2.1;refine ⟨h1,?_⟩;cases hp:Y2 ps i.A with
   | some k=>
    have hk:=b0P hp;simp only [e9Q hk];exact c6o h2 hk hv
   | none=>
    simp only;refine c6t h2 ⟨hi.1.1,hi.1.2,hv⟩ ?_;unfold Q7;rw [f0w];intro x hx;have:=f1y.1 hp x hx;simpa using this
 ·simp only [f1C];unfold L8 at hi;rw [k1] at hi;simp only [f1C,e9U,H4] at hi;cases Y2 ps i.B with
  | some k=>
   simp only;cases ps[k]?<;>exact ⟨h1,h2⟩
  | none=>
   simp only;cases hb:l[i.B.toNat]? with
   | none=>exact ⟨h1,h2⟩
   | some b=>
    simp only;cases hs:L3 rs i.B
    ·obtain ⟨b',b1,_,b3⟩:=a4C hl hi.2.1;unfold idx at b1;rw [if_pos hi.2.1.1,hb] at b1;injection b1 with b1;subst b1;rw [b3o] at b3;exact ⟨c89 h1 ⟨hi.2.1.1,hi.2.1.2,b3.1⟩ hs,h2⟩
    ·exact ⟨h1,h2⟩
theorem c07{l:List q9}(hl:F7 l=true){prog:List r9}(hi:∀i∈prog,L8 i=true):∀(f k c:Nat) (regs:List Int) (rs:List s1) (ps:List p9),regs.length=4->regs.all H0=true->a3g rs=true->a1y ps=true->rs.length<=c->ps.length<=c->c+f<=40->Ran (a0S l prog f k regs rs ps)
 | 0,k,c,regs,rs,ps,h4,hr,h1,h2,h5,h6,h7=>by
  have w:S0 ⟨rs,ps,0,0⟩ 40:=⟨rfl,h1,h2,by simp only;omega,by simp only;omega⟩
  exact b3d w (by omega) (.inl rfl) (fun _=>a1W h4 hr (a:=0) ⟨by omega,by omega⟩)
 | f+1,k,c,regs,rs,ps,h4,hr,h1,h2,h5,h6,h7=>by
  have w:∀c,S0 ⟨rs,ps,0,c⟩ 40:=fun c=>⟨rfl,h1,h2,by simp only;omega,by simp only;omega⟩
  unfold a0S;cases hk:prog[k]? with
  | none=>exact b3d (w 0) (by omega) (.inl rfl) (fun _=>a1W h4 hr (a:=0) ⟨by omega,by omega⟩)
  | some i=>
   have hin:=hi i (e96 hk);simp only;cases i.a6==6
   ·cases i.a6==7
    ·obtain ⟨a1,a2⟩:=e9j hl h4 hr hin h1 h2;have l4:=c0W (l:=l) (i:=i) (rs:=rs) (ps:=ps) h4;have lr:=c6L (l:=l) (i:=i) (regs:=regs) (ps:=ps) h5;have lp:=c5t (l:=l) (i:=i) (regs:=regs) (rs:=rs) h6;simp only [f1D];cases ha:(G0 l i regs rs ps).1.all H0
     ·have w2:S0 ⟨(G0 l i regs rs ps).2.1,(G0 l i regs rs ps).2.2,0,2⟩ 40:=⟨rfl,a1,a2,by simp only;omega,by simp only;omega⟩
      exact b3d w2 (by omega) (.inr (.inr rfl)) (v:=0) (fun q=>absurd (show (2:Int)=0 from q) (by decide))
     ·exact c07 hl hi f (k+1) (c+1) _ _ _ l4 ha a1 a2 lr lp (by omega)
    ·exact b3d (w 1) (by omega) (.inr (.inl rfl)) (v:=0) (fun q=>absurd (show (1:Int)=0 from q) (by decide))
   ·exact c07 hl hi f _ c _ _ _ h4 hr h1 h2 h5 h6 (by omega)
theorem e8x{l:List q9}{p:List r9}(hl:F7 l=true)(hp:u5 p):Ran (C5 l p):=by
 unfold C5;rw [hl,e99];cases hpo:D6 p
 ·exact (⟨by decide,by simp,by simp⟩:Ran ⟨[],[],0,3⟩)
 unfold D6 at hpo;simp only [e9U,decide_eq_true_eq] at hpo;exact c07 hl (e9Y.1 hpo.2) _ 0 0 _ [] [] rfl (by decide) rfl rfl (by simp) (by simp) (by omega)
def a40(l:List m5)(q:s3):Int:=match l.findIdx? (N9 q) with
 | some k=>(match l[k]? with|some e=>e.b9.d9|none=>0)
 | none=>0
def b1R:List q9:=e9R 4 ⟨0,0⟩
theorem b3j:a3W=some b1R:=rfl
def e9K(a b:m6):Bool := !(decide (a.a8>0)&&((a.a8==b.a8) && !W9 a.g9 b.g9))
def other(a b:j8):Bool := !(decide (a.a8>0)&&(a.a8==b.a8))
def eN:m5:=⟨true,⟨0,0⟩,⟨[],[],0,0⟩⟩
def v0:m6:=⟨0,zE⟩
def a6X(b:Int):Bool:=q8 b 1 3000
def J4(a:v6)(b:Int):Option v6:=bif a6X b&&decide (a.i5<=b) then some ⟨b,a.a0⟩ else none
def U7(vs:List m6)(n:Nat):List m6:=vs++e9R (n-vs.length) v0
def O3(a:v6)(b slot:Int)(e:m5):Option v6:=
 bif q8 slot 0 39&&z6 e then (J4 a b).map fun x=>⟨x.i5,(U7 x.a0 (slot.toNat+1)).set slot.toNat ⟨b,e⟩⟩ else none
def E7:List m6->List m6->List m6
 | [],b=>b
 | a,[]=>a
 | x::a,y::b=>(bif decide (y.a8>x.a8) then y else x)::E7 a b
def M3(b who:Int):Int:=
 bif decide (b+1<=3000)&&(e9Z (b+1) 3==who) then b+1 else
 bif decide (b+2<=3000)&&(e9Z (b+2) 3==who) then b+2 else
 bif decide (b+3<=3000)&&(e9Z (b+3) 3==who) then b+3 else -1
def a7b(n:j8):j8:={n with f0:=0,a8:=0,c9:=[],i4:=[],c8:=zE,a0:=[]}
def a4Z(n:j8):j8:={n with j3:=false,i7:=[],b8:=zE}
def N3(l:List m5)(q:s3):Bool:=l.any (N9 q)
def a68(id:Int):List Bool:=(e9R 3 false).set id.toNat true
def U3(l:List Bool):Bool:=decide (2<=(l.filter (· == true)).length)
def N5(id:Int)(m:j9):List j9:=(([0,1,2]:List Int).filter (· != id)).map fun t=>{m with c9:=id,To:=t}
def a0c(m out:j9):j9:={out with c9:=m.To,To:=m.c9}
def X6(n:j8)(b:Int):j8:=bif n.f0 != 0&&decide (b>n.a8) then a7b n else n
def R0(known:List m5):List m5->List m5×Option m5
 | []=>([],none)
 | e::q=>bif N3 known e.a5 then R0 known q else (q,some e)
def a4j(n:j8):j8×Option m5:=
 bif (n.i4.drop n.a7.length).any (fun v=>decide (v.a8>0)) then (n,some eN)
 else bif n.j3 && !N3 n.a7 n.b8.a5 then (n,some n.b8)
 else ({n with d6:=(R0 n.a7 n.d6).1},(R0 n.a7 n.d6).2)
def a09(n:j8):j8×Option m5:=match n.i4[n.a7.length]? with
 | some v=>bif decide (v.a8>0) then (n,some v.g9) else a4j n
 | none=>a4j n
def a9g(x:j8)(e:m5):j8×List j9:=match O3 x.Acc x.a8 (x.a7.length:Int) e with
 | some a=>({x with Acc:=a,f0:=3,c8:=e,a0:=a68 x.Id},N5 x.Id ⟨3,0,0,x.a8,(x.a7.length:Int),e,[]⟩)
 | none=>(a7b x,[])
def T0(n:j8):j8×List j9:=
 bif n.f0 != 2||decide (40<=n.a7.length) then (n,[]) else match a09 n with
  | (x,some e)=>a9g x e
  | (x,none)=>(x,[])
def W4(n:j8):j8×List o8:=
 bif n.j3 then (match n.a7.findIdx? (N9 n.b8.a5) with
  | some k=>(a4Z n,[⟨n.Id,n.b8.a5,a0t n.a7 k,bif a0t n.a7 k==0 then a40 n.a7 n.b8.a5 else 0⟩])
  | none=>(n,[]))
 else (n,[])
def T4(n:j8)(e:m5):j8:=
 bif n.f0==3 then {n with a7:=n.a7++[e],f0:=2,c8:=zE,a0:=[]} else {n with a7:=n.a7++[e]}
def a02(n:j8)(e:m5):j8×List j9×List o8:=
 ((T0 (W4 (T4 n e)).1).1,(T0 (W4 (T4 n e)).1).2,(W4 (T4 n e)).2)
def a4N(n:j8)(m:j9):j8×List j9:=match J4 n.Acc m.a8 with
 | some a=>(X6 {n with Acc:=a} m.a8,[a0c m ⟨2,0,0,m.a8,m.g8,zE,a.a0.drop m.g8.toNat⟩])
 | none=>(n,[a0c m ⟨6,0,0,n.Acc.i5,0,zE,[]⟩])
def a4u(n:j8)(m:j9):j8×List j9:=match O3 n.Acc m.a8 m.g8 m.g9 with
 | some a=>(X6 {n with Acc:=a} m.a8,[a0c m ⟨4,0,0,m.a8,m.g8,zE,[]⟩])
 | none=>(n,[a0c m ⟨6,0,0,n.Acc.i5,0,zE,[]⟩])
def a4K(n:j8)(m:j9):j8×List j9:=
 bif n.f0 != 1||m.a8 != n.a8 then (n,[]) else
 bif U3 (n.c9.set m.c9.toNat true) then
  T0 {n with c9:=[],i4:=E7 n.i4 (e9R m.g8.toNat v0++m.a0),f0:=2}
 else ({n with c9:=n.c9.set m.c9.toNat true,i4:=E7 n.i4 (e9R m.g8.toNat v0++m.a0)},[])
def a5j(n:j8)(m:j9):j8×List j9×List o8:=
 bif n.f0 != 3||(m.a8 != n.a8||m.g8 != (n.a7.length:Int)) then (n,[],[]) else
 bif U3 (n.a0.set m.c9.toNat true) then
  ((a02 {n with a0:=n.a0.set m.c9.toNat true} n.c8).1,N5 n.Id ⟨5,0,0,0,(n.a7.length:Int),n.c8,[]⟩++(a02 {n with a0:=n.a0.set m.c9.toNat true} n.c8).2.1,(a02 {n with a0:=n.a0.set m.c9.toNat true} n.c8).2.2)
 else ({n with a0:=n.a0.set m.c9.toNat true},[],[])
def a43(n:j8)(m:j9):j8×List j9×List o8:=
 bif decide (m.g8<(n.a7.length:Int)) then (n,[],[]) else
 bif decide (m.g8>(n.a7.length:Int)) then (n,[a0c m ⟨8,0,0,0,(n.a7.length:Int),zE,[]⟩],[])
 else a02 n m.g9
def a4J(n:j8)(m:j9):j8×List j9:=
 bif n.f0==0||(decide (4<=n.d6.length)||N3 n.a7 m.g9.a5) then (n,[]) else T0 {n with d6:=n.d6++[m.g9]}
def a1E(n:j8)(m:j9)(s:Nat):List j9:=match n.a7[s]? with
 | some e=>[a0c m ⟨5,0,0,0,(s:Int),e,[]⟩]
 | none=>[]
def a50(n:j8)(m:j9):List j9:=((e91 (n.a7.length-m.g8.toNat)).map fun j=>a1E n m (m.g8.toNat+j)).flatten
def a1B(n:j8)(m:j9):j8×List j9×List o8:=
 bif m.a6==1 then ((a4N n m).1,(a4N n m).2,[]) else
 bif m.a6==2 then ((a4K n m).1,(a4K n m).2,[]) else
 bif m.a6==3 then ((a4u n m).1,(a4u n m).2,[]) else
 bif m.a6==4 then a5j n m else
 bif m.a6==5 then a43 n m else
 bif m.a6==6 then (X6 {n with Acc:=(J4 n.Acc m.a8).getD n.Acc} m.a8,[],[]) else
 bif m.a6==7 then ((a4J n m).1,(a4J n m).2,[]) else
 bif m.a6==8 then (n,a50 n m,[]) else (n,[],[])
def N4(n:j8)(prog:List r9):j8×List j9:=
 bif n.j3||(n.Seq==1000||(C5 (A2 n.a7).1.i0 prog).Code==3) then (n,[]) else
 bif n.f0==2 then T0 {n with Seq:=n.Seq+1,j3:=true,i7:=prog,b8:=⟨false,⟨n.Id,n.Seq+1⟩,C5 (A2 n.a7).1.i0 prog⟩}
 else ({n with Seq:=n.Seq+1,j3:=true,i7:=prog,b8:=⟨false,⟨n.Id,n.Seq+1⟩,C5 (A2 n.a7).1.i0 prog⟩},
  bif n.f0==0 then N5 n.Id ⟨7,0,0,0,0,⟨false,⟨n.Id,n.Seq+1⟩,C5 (A2 n.a7).1.i0 prog⟩,[]⟩ else [])
def a1T(n:j8):j8×List j9:=
 bif decide (M3 n.Acc.i5 n.Id<0) then (n,[]) else
 ({a7b n with Acc:=⟨M3 n.Acc.i5 n.Id,n.Acc.a0⟩,f0:=1,a8:=M3 n.Acc.i5 n.Id,c9:=a68 n.Id,i4:=n.Acc.a0},
  N5 n.Id ⟨1,0,0,M3 n.Acc.i5 n.Id,(n.a7.length:Int),zE,[]⟩)
def a0W(n:j8):j8×List j9:=
 bif n.f0==1 then (n,N5 n.Id ⟨8,0,0,0,(n.a7.length:Int),zE,[]⟩++N5 n.Id ⟨1,0,0,n.a8,(n.a7.length:Int),zE,[]⟩) else
 bif n.f0==2 then ((T0 n).1,N5 n.Id ⟨8,0,0,0,(n.a7.length:Int),zE,[]⟩++(T0 n).2) else
 bif n.f0==3 then (n,N5 n.Id ⟨8,0,0,0,(n.a7.length:Int),zE,[]⟩++N5 n.Id ⟨3,0,0,n.a8,(n.a7.length:Int),n.c8,[]⟩) else
 bif n.j3 then (n,N5 n.Id ⟨8,0,0,0,(n.a7.length:Int),zE,[]⟩++N5 n.Id ⟨7,0,0,0,0,n.b8,[]⟩) else
 (n,N5 n.Id ⟨8,0,0,0,(n.a7.length:Int),zE,[]⟩)
def H5(id:Int):j8:=⟨id,⟨0,[]⟩,[],0,0,0,[],[],zE,[],false,[],zE,[]⟩
def a4G(n:j8):j8:={H5 n.Id with Acc:=n.Acc,a7:=n.a7,Seq:=n.Seq}
def a1a:m8:=⟨[H5 0,H5 1,H5 2],[],[],[]⟩
def a1l(w:m8)(l:List j9):m8:={w with d8:=w.d8++l.take (40-w.d8.length)}
def a6N(w:m8)(l:List o8):m8:={w with Told:=w.Told++l.take (60-w.Told.length)}
def Z7(w:m8)(i:Int)(n:j8):m8:={w with b7:=w.b7.set i.toNat n}
def a8v(w:m8)(i:Int):m8:={w with d8:=w.d8.take i.toNat++w.d8.drop (i.toNat+1)}
def P9(w:m8)(i:Int):j8:=w.b7.getD i.toNat (H5 0)
def a5F(w:m8)(i:Int)(prog:List r9):m8:=
 bif decide (60<=w.g7.length) then w else
 a1l (Z7 (bif decide ((N4 (P9 w i) prog).1.Seq>(P9 w i).Seq) then {w with g7:=w.g7++[⟨(N4 (P9 w i) prog).1.b8.a5,prog⟩]} else w) i (N4 (P9 w i) prog).1) (N4 (P9 w i) prog).2
def a04(w:m8)(e:v5):m8:=bif decide (0<=e.A) then (match w.d8[e.A.toNat]? with
 | some m=>bif e.a6==4 then a1l w [m] else bif e.a6==3 then a8v w e.A else
  a6N (a1l (Z7 (a8v w e.A) m.To (a1B (P9 w m.To) m).1) (a1B (P9 w m.To) m).2.1) (a1B (P9 w m.To) m).2.2
 | none=>w) else w
def L7(w:m8)(e:v5):m8:=
 bif e.a6==2||(e.a6==3||e.a6==4) then a04 w e else
 bif !q8 e.A 0 2 then w else
 bif e.a6==1 then a5F w e.A e.i7 else
 bif e.a6==5 then a1l (Z7 w e.A (a1T (P9 w e.A)).1) (a1T (P9 w e.A)).2 else
 bif e.a6==6 then a1l (Z7 w e.A (a0W (P9 w e.A)).1) (a0W (P9 w e.A)).2 else
 bif e.a6==7 then Z7 w e.A (a4G (P9 w e.A)) else w
def a5w(w:m8)(l:List v5):m8:=l.foldl L7 w
theorem a0e:C3 0:=⟨by decide,by decide⟩
theorem O0{α:Type}{b:Nat}{ok:α->Prop}:A0 b ok ([]:List α):=⟨by simp,fun x hx=>by cases hx⟩
theorem V1:E1 zE:=⟨⟨a0e,a0e⟩,O0,O0,a0e,a0e⟩
theorem b9T:E1 eN:=⟨⟨a0e,a0e⟩,O0,O0,a0e,a0e⟩
theorem b5L:G2 v0:=⟨a0e,V1⟩
theorem a5a{α R B:Type}{body:List α×Int->Option (l9 R (List α×Int) B)}(l:List α)(hl:u5 l)(f:List α->B)(h1:∀(k:Nat) (h:k<l.length),body (l.take k,(k:Int))=some (.nxt (l.take k++[l[k]],m4 ((k:Int)+1))))(h2:body (l,(l.length:Int))=some (.brk (f l))):s2 body ([],0)=some (.brk (f l)):=by
 have h:=a0C (body:=body) (fun k=>(l.take k,(k:Int))) l.length (by
  intro k hk;rw [h1 k hk,G1 hl hk,f0o hk])
 rw [show ((0:Nat):Int)=0 from rfl,f0v] at h;rw [h,f0r];exact D7 h2
theorem b4L{l:List m6}(h:A0 96 G2 l):a8j l=some l:=by
 have hf:u5 l:=h.fits (by decide);have hb:=h.1;unfold a8j;rw [a5a (body:=fun s:(List m6)×Int=>b1k l s.1 s.2) l hf (fun l=>l) (by
  intro k hk;unfold b1k;rw [z0 _ k hk,u6 hk];simp only [f1C,e9P,a0s (h.2 _ (e9T hk)).2];rw [t6 (by rw [f0i];omega)]) (by
  unfold b1k;rw [B6];rfl)]
 rfl
theorem d70{l:List m6}(h:A0 96 G2 l):b8b l=some (l,l):=by
 have hf:u5 l:=h.fits (by decide);have hb:=h.1;unfold b8b;rw [a5a (body:=fun s:(List m6)×Int=>b22 l s.1 s.2) l hf (fun l=>l) (by
  intro k hk;unfold b22;rw [z0 _ k hk,u6 hk];simp only [f1C,e9P,a0s (h.2 _ (e9T hk)).2];rw [t6 (by rw [f0i];omega)]) (by
  unfold b22;rw [B6];rfl)]
 rfl
theorem e4C{e:m5}(h:E1 e):b7j e=some e:=by
 have h1:=h.2.1.1;have h2:=h.2.2.1.1;unfold b7j c3y;rw [t6 (by simp;omega),t6 (by simp;omega)];rfl
theorem e38{l:List m6}(h:A0 96 G2 l):b7E l=some l:=by
 have hf:u5 l:=h.fits (by decide);have hb:=h.1;unfold b7E;rw [a5a (body:=fun s:(List m6)×Int=>b23 l s.1 s.2) l hf (fun l=>l) (by
  intro k hk;unfold b23;rw [z0 _ k hk,u6 hk];simp only [f1C,e9P,e4C (h.2 _ (e9T hk)).2];rw [t6 (by rw [f0i];omega)]) (by
  unfold b23;rw [B6];rfl)]
 rfl
theorem b6L{m:j9}(h:F9 m):a7S m=some m:=by
 unfold a7S;rw [a0s h.2.2.2.2.2.1,e9P,b4L h.2.2.2.2.2.2];rfl
theorem b2g{α:Type}{b:Nat}{ok:α->Prop}{l:List α}(h:A0 b ok l):(([]:List α).length+l.length)*b<=140737488355328:=by
 have:=h.1;simp only [f1x,f0A];omega
theorem a8A{n:j8}(h:P5 n):a2F n=some n:=by
 obtain ⟨h1,h2,h3,h4,h5,h6,h7,h8,h9,h10,h11,h12,h13⟩:=h;unfold a2F b88;rw [b4L h2.2,e9P,e9P,c8Y h3,e9P,t6 (b2g h7),b4L h8,e9P,a0s h9,e9P,t6 (b2g h10),t6 (b2g h11),a0s h12,e9P,c8Y h13];rfl
theorem c0P{a:v6}{b:Int}:a8y a b=match J4 a b with|some _=>none|none=>some (a,false):=by
 unfold a8y J4 a6X;rw [a8F,e9P];cases q8 b 1 3000
 ·rfl
 ·by_cases h:b<a.i5
  ·simp [h,show ¬a.i5<=b by omega]
  ·simp [h,show a.i5<=b by omega]
theorem b3I{a:v6}{b:Int}:a5y a b=some (match J4 a b with|some x=>(x,true)|none=>(a,false)):=by
 unfold a5y J4 a6X;rw [a8F,e9P];cases q8 b 1 3000
 ·rfl
 ·by_cases h:b<a.i5
  ·simp [h,show ¬a.i5<=b by omega]
  ·simp [h,show a.i5<=b by omega]
theorem d0P{a:v6}{b s:Int}{e:m5}(he:E1 e):b2e a b s e=match O3 a b s e with|some _=>none|none=>some (a,false):=by
 unfold b2e O3;rw [a3D he.f,e9P,c0P];by_cases h1:s<0
 ·simp [h1,q8,show ¬(0<=s/\s<=39) by omega]
 ·by_cases h2:s>=40
  ·simp [h1,h2,q8,show ¬(0<=s/\s<=39) by omega]
  ·simp only [h1,h2,decide_false,f1D,q8,show (0<=s/\s<=39) by omega,and_self,decide_true,e99];cases z6 e
   ·rfl
   ·simp only [e9V,f1D,f1C];cases J4 a b<;>rfl
theorem d1u(slot:Nat)(hs:slot<40):∀(m:Nat) (vs:List m6),slot+1-vs.length=m->s2 (fun s:List m6=>a7y (slot:Int) s) vs=some (.brk (U7 vs (slot+1)))
 | 0,vs,h=>by
  refine D7 ?_;unfold a7y U7;rw [h,show decide ((vs.length:Int)<=(slot:Int))=false by simp;omega];simp
 | m+1,vs,h=>by
  have hb:a7y (slot:Int) vs=some (.nxt (vs++[v0])):=by
   unfold a7y;rw [show decide ((vs.length:Int)<=(slot:Int))=true by simp;omega,f1C,t6 (by omega)];rfl
  rw [F4 (body:=fun s:List m6=>a7y (slot:Int) s) hb,d1u slot hs m (vs++[v0]) (by simp;omega)];congr 2
  unfold U7;rw [h,e94,show slot+1-(vs.length+[v0].length)=m by simp;omega,e95];rfl
theorem b9o(vs:List m6)(n:Nat):(U7 vs n).length=max vs.length n:=by
 unfold U7;simp;omega
theorem c0b{a:v6}{b s:Int}{e:m5}(he:E1 e):a9E a b s e=some (match O3 a b s e with|some x=>(x,true)|none=>(a,false)):=by
 unfold a9E O3;rw [a3D he.f,e9P,c0P,b3I,e9P];by_cases h1:s<0
 ·simp [h1,q8,show ¬(0<=s/\s<=39) by omega]
 ·by_cases h2:s>=40
  ·simp [h1,h2,q8,show ¬(0<=s/\s<=39) by omega]
  ·simp only [h1,h2,decide_false,f1D,q8,show (0<=s/\s<=39) by omega,and_self,decide_true,e99];cases z6 e
   ·rfl
   ·simp only [e9V,f1D,f1C];cases J4 a b with
    | none=>rfl
    | some x=>
     obtain ⟨k,rfl⟩:∃k:Nat,s=(k:Int):=⟨s.toNat,by omega⟩
     have hk:k<(U7 x.a0 (k+1)).length:=by rw [b9o];omega
     simp only [a4n,e9V,f1D,d1u k (by omega) _ _ rfl,e9P,l8.go,c2b,a0s he,u6 hk,f0M,f0k]
theorem b5i{n:j8}{q:s3}(h:u5 n.a7):a8h n q=some (N3 n.a7 q):=by
  unfold a8h;rw [show s2 (fun s:Int=>b0d n q s) 0=_ from c2k (body:=fun s:Int=>b0d n q s) n.a7 h (N9 q) (fun _=>true) () (by
      intro k hk;unfold b0d c3m N9;rw [z0 _ k hk,u6 hk];simp only [f1C,e9P];cases n.a7[k].i8<;>cases (([n.a7[k].a5.d7,n.a7[k].a5.Seq]:List Int)==[q.d7,q.Seq])<;>rfl) (by
      unfold b0d;rw [B6];rfl)]
  unfold N3;cases hf:n.a7.find? (N9 q) with
  | none=>
    have:n.a7.any (N9 q)=false:=by
      rw [f0w];intro x hx;exact List.find?_eq_none.1 hf x hx
    rw [this];rfl
  | some x=>
    have:n.a7.any (N9 q)=true:=f1d.2 ⟨x,List.mem_of_find?_eq_some hf,List.find?_some hf⟩;rw [this];rfl
def a0J(id:Int)(m:j9)(o:List j9)(t:Int):List j9:=bif t != id then o++[{m with c9:=id,To:=t}] else o
theorem d2P(id:Int)(m:j9)(o:List j9)(t:Int):(a0J id m o t).length<=o.length+1:=by
 unfold a0J;cases t != id<;>simp
theorem a4V{id:Int}(hid:0<=id/\id<=2){m:j9}(h:F9 m):a2v id m=some (N5 id m):=by
 have e:∀(o:List j9) (t:Int),o.length<=3->0<=t->t<3->a3S id m o t=some (.nxt (a0J id m o t,t+1)):=by
  intro o t ho ht0 ht;unfold a3S c3d a0J;rw [show decide (t<3)=true by simpa using ht,f1C,b6L h,e9P,t6 (by omega),B9 (by omega) (by omega)];cases t != id<;>rfl
 have l1:=d2P id m [] 0;have l2:=d2P id m (a0J id m [] 0) (0+1);have h0:=F4 (body:=fun s:(List j9)×Int=>a3S id m s.1 s.2) (s:=([],0)) (e [] 0 (by simp) (by omega) (by omega));have h1:=F4 (body:=fun s:(List j9)×Int=>a3S id m s.1 s.2) (s:=(a0J id m [] 0,0+1)) (e (a0J id m [] 0) (0+1) (by simp at l1;omega) (by omega) (by omega));have h2:=F4 (body:=fun s:(List j9)×Int=>a3S id m s.1 s.2) (s:=(a0J id m (a0J id m [] 0) (0+1),0+1+1)) (e (a0J id m (a0J id m [] 0) (0+1)) (0+1+1) (by simp at l1;omega) (by omega) (by omega));have h3:=D7 (body:=fun s:(List j9)×Int=>a3S id m s.1 s.2) (s:=(a0J id m (a0J id m (a0J id m [] 0) (0+1)) (0+1+1),0+1+1+1)) (show a3S id m _ (0+1+1+1)=_ from rfl);unfold a2v;rw [h0,h1,h2,h3];obtain rfl|rfl|rfl:id=0\/id=1\/id=2:=by omega
 all_goals rfl
theorem c6Q:∀(l:List Bool) (hl:u5 l) (m k:Nat) (c:Int),k+m=l.length->0<=c->c<=k->s2 (fun s:Int×Int=>a3M l s.1 s.2) (c,(k:Int))=some (.brk (c+(((l.drop k).filter (· == true)).length:Int)))
 | l,hl,0,k,c,hk,h0,h1=>by
  have:k=l.length:=by omega
  subst this;refine D7 ?_;show a3M l c (l.length:Int)=_
  unfold a3M;rw [B6];simp
 | l,hl,m+1,k,c,hk,h0,h1=>by
  have hlt:k<l.length:=by omega
  have hfl:(l.length:Int)<=140737488351232:=by have:=hl;unfold u5 at this;omega
  have hb:a3M l c (k:Int)=some (.nxt (c+(bif l[k] then 1 else 0),((k+1:Nat):Int))):=by
   unfold a3M c0w;rw [z0 _ k hlt,u6 hlt,f1C,e9P,G1 hl hlt];cases l[k]<;>simp only [f1C,f1D,e9P]<;>rw [B9 (by omega) (by omega)]
  rw [F4 (body:=fun s:Int×Int=>a3M l s.1 s.2) hb,c6Q l hl m (k+1) _ (by omega) (by cases l[k]<;>simp<;>omega) (by cases l[k]<;>simp<;>omega),f0e hlt];cases l[k]<;>simp
  omega
theorem d0F{l:List Bool}(h:u5 l):b1j l=some (U3 l):=by
 unfold b1j;rw [show s2 (fun s:Int×Int=>a3M l s.1 s.2) (0,0)=_ from c6Q l h l.length 0 0 (by omega) (by omega) (by omega)];simp only [e9P,l8.go,b86,U3,f0S];congr 1
 simp;omega
theorem e4m{l:List m6}{s:Int}(h:A0 96 G2 l)(hl:l.length<=40)(hs:0<=s/\s<=40):b59 l s=some (e9R s.toNat v0++l):=by
 unfold b59;rw [t6 (by omega),b4L h,e9P,t6 (by simp;omega)];rfl
theorem a9b:∀a b:List m6,(E7 a b).length=max a.length b.length
 | [],b=>by simp [E7]
 | x::a,[]=>by simp [E7]
 | x::a,y::b=>by simp only [E7,f0F,a9b a b];omega
theorem b4k:∀(a b:List m6) (k:Nat),(E7 a b)[k]?=match a[k]?,b[k]? with
  | some x,some y=>some (bif decide (y.a8>x.a8) then y else x)
  | some x,none=>some x
  | none,some y=>some y
  | none,none=>none
 | [],b,k=>by simp [E7];cases b[k]?<;>rfl
 | x::a,[],k=>by simp [E7];cases (x::a)[k]?<;>rfl
 | x::a,y::b,0=>by simp [E7]
 | x::a,y::b,k+1=>by simp only [E7,f01];exact b4k a b k
theorem b8g{a b:List m6}{v:m6}(h:v∈E7 a b):v∈a\/v∈b:=by
 obtain ⟨k,hk⟩:=f07 h;rw [b4k] at hk;cases ha:a[k]? with
 | none=>
  cases hb:b[k]? with
  | none=>rw [ha,hb] at hk;cases hk
  | some y=>rw [ha,hb] at hk;injection hk with hk;subst hk;exact .inr (e96 hb)
 | some x=>
  cases hb:b[k]? with
  | none=>rw [ha,hb] at hk;injection hk with hk;subst hk;exact .inl (e96 ha)
  | some y=>
   rw [ha,hb] at hk;simp only at hk;cases hd:decide (y.a8>x.a8)
   ·rw [hd] at hk;injection hk with hk;subst hk;exact .inl (e96 ha)
   ·rw [hd] at hk;injection hk with hk;subst hk;exact .inr (e96 hb)
theorem e4U{a b:List m6}(ha:A0 96 G2 a)(hb:A0 96 G2 b)(hla:a.length<=80)(hlb:b.length<=80)(hz:∀v∈b,v.a8<=0->v=v0):b7F a b=some (E7 a b):=by
 have hlen:=a9b a b;unfold b7F;rw [a5a (body:=fun s:(List m6)×Int=>a6q a b s.1 s.2) (E7 a b) (by unfold u5;omega) (fun l=>l) (by
  intro k hk;have hget:=b4k a b k;rw [e9Q hk] at hget;have hent:∀v,v∈a\/v∈b->E1 v.g9:=fun v hv=>hv.elim (fun q=>(ha.2 v q).2) (fun q=>(hb.2 v q).2)
  have hj1:∀v:m6,E1 v.g9->b6v ((E7 a b).take k) (k:Int) v=some (.nxt ((E7 a b).take k++[v],m4 ((k:Int)+1))):=by
   intro v hv;unfold b6v;rw [a0s hv,e9P,t6 (by rw [f0i];omega)]
  show a6q a b ((E7 a b).take k) (k:Int)=_
  have hkk:k<a.length\/k<b.length:=by omega
  have hstart:a6q a b ((E7 a b).take k) (k:Int)=b4w a b ((E7 a b).take k) (k:Int):=by
   unfold a6q;by_cases h1:k<a.length
   ·rw [z0 _ k h1];rfl
   ·rw [show decide ((k:Int)<(a.length:Int))=false by simp;omega,z0 _ k (by omega)];rfl
  rw [hstart];unfold b4w;by_cases h1:k<a.length
  ·rw [z0 _ k h1,u6 h1];simp only [f1C,e9P,l8.go];unfold b5C;rw [e9Q h1] at hget;by_cases h2:k<b.length
   ·rw [z0 _ k h2,u6 h2];rw [e9Q h2] at hget;simp only [f1C,e9P];injection hget with hget;rw [hget];cases decide (b[k].a8>a[k].a8)
    ·simp only [f1D,e9P,l8.go];exact hj1 _ (hent _ (.inl (e9T h1)))
    ·simp only [f1C,e9P,l8.go];exact hj1 _ (hent _ (.inr (e9T h2)))
   ·rw [show decide ((k:Int)<(b.length:Int))=false by simp;omega];rw [f0l (by omega)] at hget;injection hget with hget;rw [hget];simp only [f1D,e9P,l8.go];exact hj1 _ (hent _ (.inl (e9T h1)))
  ·have h2:k<b.length:=by omega
   rw [show decide ((k:Int)<(a.length:Int))=false by simp;omega];simp only [f1D,e9P,l8.go];unfold b5C;rw [z0 _ k h2,u6 h2];rw [f0l (by omega),e9Q h2] at hget;injection hget with hget;rw [hget];simp only [f1C,e9P];by_cases h3:b[k].a8>0
   ·rw [show decide (b[k].a8>0)=true by simpa using h3];simp only [f1C,e9P,l8.go];exact hj1 _ (hent _ (.inr (e9T h2)))
   ·have hv:=hz _ (e9T h2) (by omega);rw [show decide (b[k].a8>0)=false by simpa using h3];simp only [f1D,e9P,l8.go];rw [hv];exact hj1 v0 V1) (by
  show a6q a b (E7 a b) ((E7 a b).length:Int)=_
  unfold a6q;rw [show decide (((E7 a b).length:Int)<(a.length:Int))=false by simp;omega,show decide (((E7 a b).length:Int)<(b.length:Int))=false by simp;omega];rfl)]
 rfl
theorem e2X{b who:Int}(hb:0<=b/\b<=3000)(hw:0<=who/\who<=2):b67 b who=some (M3 b who):=by
 have e:∀i:Int,1<=i->i<=3->a2V b who (b+i)=some (bif decide (b+i<=3000) then (bif e9Z (b+i) 3==who then .ret (b+i) else .nxt (b+(i+1))) else .brk ()):=by
  intro i h1 h3;unfold a2V;rw [B9 (by omega) (by omega),show decide (b+i<=b+3)=true by simp;omega,f1C,B9 (by omega) (by omega),Int.add_assoc];cases decide (b+i<=3000)
  ·rfl
  ·cases e9Z (b+i) 3==who<;>rfl
 have e4:a2V b who (b+4)=some (.brk ()):=by
  unfold a2V;rw [B9 (by omega) (by omega),show decide (b+4<=b+3)=false by simp];rfl
 have e1:=e 1 (by omega) (by omega);have e2:=e 2 (by omega) (by omega);have e3:=e 3 (by omega) (by omega);unfold b67 M3;rw [show decide (b<0)=false by simp;omega,show decide (b>3000)=false by simp;omega,show decide (who<0)=false by simp;omega,show decide (who>=3)=false by simp;omega,B9 (by omega) (by omega)];simp only [f1D];have hb4:s2 (fun s:Int=>a2V b who s) (b+4)=some (.brk ()):=D7 e4;have h3:s2 (fun s:Int=>a2V b who s) (b+3)=some (bif decide (b+3<=3000)&&(e9Z (b+3) 3==who) then .ret (b+3) else .brk ()):=by
  cases q:decide (b+3<=3000)
  ·rw [q] at e3;exact D7 e3
  ·rw [q] at e3;cases t:e9Z (b+3) 3==who
   ·rw [t] at e3;rw [F4 e3];exact hb4
   ·rw [t] at e3;exact Z4 e3
 have h2:s2 (fun s:Int=>a2V b who s) (b+2)=some (bif decide (b+2<=3000)&&(e9Z (b+2) 3==who) then .ret (b+2) else bif decide (b+3<=3000)&&(e9Z (b+3) 3==who) then .ret (b+3) else .brk ()):=by
  cases q:decide (b+2<=3000)
  ·rw [q] at e2;rw [show decide (b+3<=3000)=false by simp at q⊢;omega];exact D7 e2
  ·rw [q] at e2;cases t:e9Z (b+2) 3==who
   ·rw [t] at e2;rw [F4 e2];exact h3
   ·rw [t] at e2;exact Z4 e2
 have h1:s2 (fun s:Int=>a2V b who s) (b+1)=some (bif decide (b+1<=3000)&&(e9Z (b+1) 3==who) then .ret (b+1) else bif decide (b+2<=3000)&&(e9Z (b+2) 3==who) then .ret (b+2) else bif decide (b+3<=3000)&&(e9Z (b+3) 3==who) then .ret (b+3) else .brk ()):=by
  cases q:decide (b+1<=3000)
  ·rw [q] at e1;rw [show decide (b+2<=3000)=false by simp at q⊢;omega,show decide (b+3<=3000)=false by simp at q⊢;omega];exact D7 e1
  ·rw [q] at e1;cases t:e9Z (b+1) 3==who
   ·rw [t] at e1;rw [F4 e1];exact h2
   ·rw [t] at e1;exact Z4 e1
 rw [h1];cases decide (b+1<=3000)&&(e9Z (b+1) 3==who)<;>cases decide (b+2<=3000)&&(e9Z (b+2) 3==who)<;>cases decide (b+3<=3000)&&(e9Z (b+3) 3==who)<;>rfl
theorem w9{n:Int}(h:-1000000000<=n/\n<=1000000000):C3 n:=⟨by omega,by omega⟩
theorem R9{α:Type}{b:Nat}{ok:α->Prop}{l:List α}(hl:l.length*b<=1000000000)(h:∀x∈l,ok x):A0 b ok l:=⟨by omega,h⟩
theorem e0x{α:Type}{b:Nat}{ok:α->Prop}{l l':List α}(h:A0 b ok l)(hl:l'.length<=l.length)(hs:∀x∈l',x∈l):A0 b ok l':=
 ⟨f0f (f0d _ hl) h.1,fun x hx=>h.2 x (hs x hx)⟩
theorem c04{l:List m5}{q:s3}:N3 l q=(l.findIdx? (N9 q)).isSome:=by
 unfold N3;cases h:l.findIdx? (N9 q) with
 | none=>
  rw [f1y] at h;rw [Option.isSome_none,f0w];intro x hx;rw [h x hx];simp
 | some k=>
  rw [f0W] at h;obtain ⟨hk,h1,_⟩:=h;rw [Option.isSome_some];exact f1d.2 ⟨l[k],e9T hk,h1⟩
theorem e8d{n:j8}(h:A0 88 E1 n.a7)(hok:M9 n.a7=true):b6w n=some (W4 n):=by
 obtain ⟨hl,he⟩:=a7N hok;have hf:u5 n.a7:=h.fits (by decide);unfold b6w W4;rw [b5i hf,e9P,c04];cases n.j3
 ·rfl
 simp only [e9V,f1D,f1C];cases hfi:n.a7.findIdx? (N9 n.b8.a5) with
 | none=>rfl
 | some kk=>
 simp only [Option.isSome_some,e9V,f1D,c4p,e9P];have:=b3Q (body:=fun s:(List q9)×Int×Int×List s5=>a8E n s.1 s.2.1 s.2.2.1 s.2.2.2) (fun k=>((A2 (n.a7.take k)).1.i0,(k:Int),(A2 (n.a7.take k)).1.At,(A2 (n.a7.take k)).1.i9)) n.a7 (N9 n.b8.a5) (fun k=>(a4Z n,[⟨n.Id,n.b8.a5,a0t n.a7 k,bif a0t n.a7 k==0 then (match n.a7[k]? with|some e=>e.b9.d9|none=>0) else 0⟩])) () (by
   intro k hk;obtain ⟨h1,h2,h3⟩:=a4f hl he k (by omega);unfold a8E c2V N9 a0t;rw [z0 _ k hk,u6 hk,d1f hl he hk,a7E hk,<-G1 hf hk,e9Q hk];simp only [f1C,e9P];rw [show (⟨(A2 (n.a7.take k)).1.At,(A2 (n.a7.take k)).1.i0,(A2 (n.a7.take k)).1.i9⟩:u9)=(A2 (n.a7.take k)).1 from rfl,c9i h1 (by omega) (e9Y.1 he _ (e9T hk)) (h.2 _ (e9T hk)).f,e9P];cases n.a7[k].i8<;>cases (([n.a7[k].a5.d7,n.a7[k].a5.Seq]:List Int)==[n.b8.a5.d7,n.b8.a5.Seq])<;>first|rfl|skip
   simp only [f1D,e9V,f0a,e99,f1C,f0X];cases ((apply (A2 (n.a7.take k)).1 n.a7[k]).2==0)<;>rfl) (by
   unfold a8E;rw [B6];rfl)
 rw [f0v,hfi] at this;rw [show s2 (fun s:(List q9)×Int×Int×List s5=>a8E n s.1 s.2.1 s.2.2.1 s.2.2.2) (U4.i0,0,U4.At,U4.i9)=_ from this];simp only [e9P,l8.go,a40,hfi];all_goals rfl
theorem d8L{l:List m6}(hf:u5 l)(k:Nat):b8w l (k:Int)=some ((l.drop k).any fun v=>decide (v.a8>0)):=by
 have key:∀(m k:Nat),l.length-k=m->s2 (fun s:Int=>a6H l s) (k:Int)=some (bif (l.drop k).any (fun v=>decide (v.a8>0)) then .ret true else .brk ()):=by
  intro m;induction m with
  | zero=>
   intro k hk;rw [e97 (by omega)];refine D7 ?_;unfold a6H;rw [show decide ((k:Int)<(l.length:Int))=false by simp;omega];rfl
  | succ m ih=>
   intro k hk;have hlt:k<l.length:=by omega
   rw [f0e hlt,List.any_cons];cases hd:decide (l[k].a8>0)
   ·rw [F4 (body:=fun s:Int=>a6H l s) (t:=((k+1:Nat):Int)) (by
     unfold a6H;rw [z0 _ k hlt,u6 hlt,f1C,e9P,hd,G1 hf hlt];rfl),ih (k+1) (by omega),f0t]
   ·refine Z4 ?_;unfold a6H;rw [z0 _ k hlt,u6 hlt,f1C,e9P,hd];rfl
 unfold b8w;rw [key _ k rfl];cases (l.drop k).any fun v=>decide (v.a8>0)<;>rfl
theorem d00(n:j8)(hk:u5 n.a7):∀(q:List m5),A0 88 E1 q->s2 (fun s:List m5=>a9i n s) q=some (match R0 n.a7 q with
  | (q',some e)=>.ret ({n with d6:=q'},e,true)
  | (q',none)=>.brk q')
 | [],h=>D7 rfl
 | e::q,h=>by
  have hb:=h.1;rw [f0F,f0C] at hb;have h':A0 88 E1 q:=⟨by omega,fun x hx=>h.2 x (f1u _ hx)⟩
  have ht:(([]:List m5)++((e::q).drop (0+(1:Int).toNat)).take ((e::q).length-(1:Int).toNat))=q:=by
   simp
  have hs:a9i n (e::q)=some (bif N3 n.a7 e.a5 then .nxt q else .ret ({n with d6:=q},e,true)):=by
   unfold a9i;rw [show decide (((e::q).length:Int)>0)=true by simp,f1C,show idx (e::q) 0=some e from rfl,e9P,t6 (by simp;omega),t6 (by simp;omega),ht,b5i (n:={n with d6:=q}) hk,e9P];cases N3 n.a7 e.a5<;>rfl
  unfold R0;cases hd:N3 n.a7 e.a5
  ·rw [hd] at hs;exact Z4 hs
  ·rw [hd] at hs;rw [F4 (body:=fun s:List m5=>a9i n s) hs];exact d00 n hk q h'
def b5z(x:j8×Option m5):j8×m5×Bool:=match x with
 | (n,some e)=>(n,e,true)
 | (n,none)=>(n,zE,false)
theorem e4y{n:j8}(h:P5 n):b7u n=some (b5z (a09 n)):=by
 obtain ⟨h1,h2,h3,h4,h5,h6,h7,h8,h9,h10,h11,h12,h13⟩:=h;have hk:u5 n.a7:=h3.fits (by decide);have j1:b7t n=some (b5z ({n with d6:=(R0 n.a7 n.d6).1},(R0 n.a7 n.d6).2)):=by
  unfold b7t;rw [d00 n hk _ h13];obtain ⟨q,o⟩:=R0 n.a7 n.d6;cases o<;>rfl
 have j2:b6c n=some (b5z (a4j n)):=by
  unfold b6c a4j;rw [d8L (h8.fits (by decide)),e9P,b5i hk,a0s h12];generalize (({n with d6:=(R0 n.a7 n.d6).1},(R0 n.a7 n.d6).2):j8×Option m5)=X at j1⊢;cases (n.i4.drop n.a7.length).any fun v=>decide (v.a8>0)
  ·simp only [f1D];cases n.j3
   ·exact j1
   ·cases N3 n.a7 n.b8.a5
    ·rfl
    ·exact j1
  ·rfl
 unfold b7u a09;by_cases hl:n.a7.length<n.i4.length
 ·rw [z0 _ _ hl,u6 hl,e9Q hl];simp only [f1C,e9P];cases decide (n.i4[n.a7.length].a8>0)
  ·exact j2
  ·simp only [f1C,a0s (h8.2 _ (e9T hl)).2,e9P,l8.go];rfl
 ·rw [show decide ((n.a7.length:Int)<(n.i4.length:Int))=false by simp;omega,f0l (by omega)];exact j2
theorem c6r(known:List m5):∀(q:List m5),(R0 known q).1.length<=q.length/\(∀x∈(R0 known q).1,x∈q)/\∀e,(R0 known q).2=some e->e∈q/\N3 known e.a5=false/\(R0 known q).1.length<q.length
 | []=>⟨f0u _,fun x hx=>hx,fun e he=>by cases he⟩
 | e::q=>by
  unfold R0;cases hk:N3 known e.a5
  ·refine ⟨by simp,fun x hx=>by simpa using .inr hx,fun e' he => ?_⟩;injection he with he;subst he;exact ⟨by simp,hk,by simp⟩
  ·obtain ⟨a,b,c⟩:=c6r known q;refine ⟨by simp only [f1C,f0F];omega,fun x hx=>f1u _ (b x hx),fun e' he => ?_⟩;obtain ⟨x,y,z⟩:=c e' he;exact ⟨f1u _ x,y,by simp only [f1C,f0F];omega⟩
inductive a2S (n:j8):m5->Prop
 | best (v) (h:n.i4[n.a7.length]?=some v) (hb:v.a8>0):a2S n v.g9
 | gap (v) (h:v∈n.i4.drop n.a7.length) (hb:v.a8>0) (hn:∀v,n.i4[n.a7.length]?=some v->¬v.a8>0):a2S n eN
 | want (h:n.j3=true) (hk:N3 n.a7 n.b8.a5=false) (hn:∀v∈n.i4.drop n.a7.length,¬v.a8>0):a2S n n.b8
 | queue (e) (h:e∈n.d6) (hk:N3 n.a7 e.a5=false) (hn:∀v∈n.i4.drop n.a7.length,¬v.a8>0):a2S n e
theorem b4O(n:j8):∃q:List m5,(a09 n).1={n with d6:=q}/\q.length<=n.d6.length/\(∀x∈q,x∈n.d6)/\∀e,(a09 n).2=some e->a2S n e:=by
 have rest:(∀v,n.i4[n.a7.length]?=some v->¬v.a8>0)->∃q:List m5,(a4j n).1={n with d6:=q}/\q.length<=n.d6.length/\(∀x∈q,x∈n.d6)/\∀e,(a4j n).2=some e->a2S n e:=by
  intro hn;unfold a4j;cases ha:(n.i4.drop n.a7.length).any fun v=>decide (v.a8>0)
  ·have hnv:∀v∈n.i4.drop n.a7.length,¬v.a8>0:=fun v hv=>by simpa using f0w.1 ha v hv
   cases hb:n.j3 && !N3 n.a7 n.b8.a5
   ·obtain ⟨a,b,c⟩:=c6r n.a7 n.d6;exact ⟨_,rfl,a,b,fun e he=>.queue e (c e he).1 (c e he).2.1 hnv⟩
   ·simp only [e9U,f0L] at hb;refine ⟨n.d6,rfl,f0u _,fun _ h=>h,fun e he => ?_⟩;injection he with he;subst he;exact .want hb.1 hb.2 hnv
  ·obtain ⟨v,hv,hb⟩:=f1d.1 ha;refine ⟨n.d6,rfl,f0u _,fun _ h=>h,fun e he => ?_⟩;injection he with he;subst he;exact .gap v hv (by simpa using hb) hn
 unfold a09;cases hg:n.i4[n.a7.length]? with
 | none=>exact rest (by rw [hg];simp)
 | some v=>
  simp only;cases hb:decide (v.a8>0)
  ·exact rest (by rw [hg];intro w hw;injection hw with hw;subst hw;simpa using hb)
  ·refine ⟨n.d6,rfl,f0u _,fun _ h=>h,fun e he => ?_⟩;injection he with he;subst he;exact .best v hg (by simpa using hb)
theorem a2S.ok{n:j8}(h:P5 n){e:m5}(hn:a2S n e):E1 e:=by
 cases hn with
 | best v hv hb=>exact (h.2.2.2.2.2.2.2.1.2 v (e96 hv)).2
 | gap=>exact b9T
 | want=>exact h.2.2.2.2.2.2.2.2.2.2.2.1
 | queue e hq=>exact h.2.2.2.2.2.2.2.2.2.2.2.2.2 e hq
theorem a8p{k b s:Int}{e:m5}{vs:List m6}(hk:C3 k)(hb:C3 b)(hs:C3 s)(he:E1 e)(hv:A0 96 G2 vs):F9 ⟨k,0,0,b,s,e,vs⟩:=⟨hk,a0e,a0e,hb,hs,he,hv⟩
theorem c10{id:Int}(h:0<=id/\id<=2):∃y,idx (e9R (3:Int).toNat false) id=some y:=by
 obtain rfl|rfl|rfl:id=0\/id=1\/id=2:=by omega
 all_goals exact ⟨false,rfl⟩
theorem b1o{n:j8}(h:P5 n)(hid:0<=n.Id/\n.Id<=2):a6i n=some (T0 n):=by
 unfold a6i T0;rw [show decide ((n.a7.length:Int)>=40)=decide (40<=n.a7.length) by simp;omega];cases n.f0 != 2
 ·simp only [f1D,f0t];cases hlt:decide (40<=n.a7.length)
  ·simp only [f1D,e4y h,e9P];obtain ⟨q,hq,hql,hqm,hqe⟩:=b4O n;cases hx:a09 n with
   | mk x o=>
   rw [hx] at hq hqe;have hq:x={n with d6:=q}:=hq;cases o with
   | none=>rfl
   | some e=>
    have he:=(hqe e rfl).ok h;have hlen:n.a7.length<40:=by simpa using hlt
    subst hq;simp only [b5z,e9V,f1D,d0P he,c0b he,a9g];cases O3 n.Acc n.a8 (n.a7.length:Int) e with
    | none=>rfl
    | some a=>
     obtain ⟨y,hy⟩:=c10 hid;simp only [a4n,e9P,e9V,f1D,a0s he,hy];rw [t6 (by omega),a4V hid (a8p (w9 (by omega)) h.2.2.2.2.2.1 (w9 (by omega)) he O0)];rfl
  ·rfl
 ·rfl
theorem e64{n:j8}(h:P5 n):P5 (a4Z n):=by
 obtain ⟨h1,h2,h3,h4,h5,h6,h7,h8,h9,h10,h11,h12,h13⟩:=h;exact ⟨h1,h2,h3,h4,h5,h6,h7,h8,h9,h10,O0,V1,h13⟩
theorem e84{n:j8}(h:P5 n){e:m5}(he:E1 e)(hl:n.a7.length<=40):P5 (T4 n e):=by
 obtain ⟨h1,h2,h3,h4,h5,h6,h7,h8,h9,h10,h11,h12,h13⟩:=h;have hk:A0 88 E1 (n.a7++[e]):=R9 (by simp;omega) (by
  intro x hx;rcases e9S.1 hx with q|q
  ·exact h3.2 x q
  ·rw [e92.1 q];exact he)
 unfold T4;cases n.f0==3
 ·exact ⟨h1,h2,hk,h4,h5,h6,h7,h8,h9,h10,h11,h12,h13⟩
 ·exact ⟨h1,h2,hk,h4,w9 (n:=2) (by omega),h6,h7,h8,V1,O0,h11,h12,h13⟩
theorem b4K(n:j8):(W4 n=(n,[]))\/∃k,n.j3=true/\n.a7.findIdx? (N9 n.b8.a5)=some k/\W4 n=(a4Z n,[⟨n.Id,n.b8.a5,a0t n.a7 k,bif a0t n.a7 k==0 then a40 n.a7 n.b8.a5 else 0⟩]):=by
 unfold W4;cases n.j3
 ·exact .inl rfl
 ·cases h:n.a7.findIdx? (N9 n.b8.a5) with
  | none=>exact .inl rfl
  | some k=>exact .inr ⟨k,rfl,rfl,rfl⟩
theorem d42{n:j8}(h:P5 n):P5 (W4 n).1:=by
 rcases b4K n with q|⟨k,_,_,q⟩<;>rw [q]
 ·exact h
 ·exact e64 h
theorem c93(n:j8):(W4 n).1.Id=n.Id:=by
 rcases b4K n with q|⟨k,_,_,q⟩<;>rw [q];rfl
theorem c8i(n:j8)(e:m5):(T4 n e).Id=n.Id:=by
 unfold T4;cases n.f0==3<;>rfl
theorem e1r(n:j8)(e:m5):(T4 n e).a7=n.a7++[e]:=by
 unfold T4;cases n.f0==3<;>rfl
theorem c9I{n:j8}(h:P5 n)(hid:0<=n.Id/\n.Id<=2)(hk:M9 n.a7=true)(hl:n.a7.length<40){e:m5}(he:E1 e)(hok:z6 e=true):b2C n e=some (a02 n e):=by
 have hkn:=e84 h he (by omega);have hko:M9 (T4 n e).a7=true:=by
  rw [e1r];obtain ⟨a,b⟩:=a7N hk;unfold M9;simp only [e94,f0O,List.all_append,List.all_cons,List.all_nil,b,hok,f0R,Bool.and_self,decide_eq_true_eq];omega
 have hj:∀(p:Int) (c:m5) (vs:List Bool),(⟨n.Id,n.Acc,n.a7++[e],n.Seq,p,n.a8,n.c9,n.i4,c,vs,n.j3,n.i7,n.b8,n.d6⟩:j8)=T4 n e->b4G n e vs c.a5.d7 c.a5.Seq c.b9.a9 c.b9.b6 c.b9.d9 c.b9.Code p c.i8=some (a02 n e):=by
  intro p c vs hq;unfold b4G;rw [show (j8.mk n.Id n.Acc (n.a7++[e]) n.Seq p n.a8 n.c9 n.i4 (m5.mk c.i8 (s3.mk c.a5.d7 c.a5.Seq) (m9.mk c.b9.a9 c.b9.b6 c.b9.d9 c.b9.Code)) vs n.j3 n.i7 n.b8 n.d6)=T4 n e from hq,e8d hkn.2.2.1 hko,e9P,b1o (d42 hkn) (by rw [c93,c8i];exact hid),e9P];rfl
 unfold b2C;rw [a0s he,e9P,t6 (by omega)];cases hp:n.f0==3
 ·exact hj n.f0 n.c8 n.a0 (by unfold T4;rw [hp];rfl)
 ·exact hj 2 zE [] (by unfold T4;rw [hp];rfl)
theorem d30{r:m9}(h:S9 r=true):r.a9.length<=4:=by
 have h0:a3g r.a9=true:=by
  rw [b2Q] at h;simp only [e9U] at h;exact h.2.2.2.2.1
 obtain ⟨h1,h2⟩:=c9f.1 h0;let ps:List p9:=r.a9.map fun x=>⟨x.i6,0⟩
 have hp:∀p∈ps,a2q p:=by
  intro p hp;obtain ⟨x,hx,rfl⟩:=f0n.1 hp;exact ⟨(h1 x hx).1,(h1 x hx).2.1,by simp,by simp⟩
 have hpw:ps.Pairwise fun p q=>p.i6≠q.i6:=List.pairwise_map.2 h2
 have hl:=b97 hp;have a:=a46 hpw 0;have b:=a46 hpw 1;have c:=a46 hpw 2;have d:=a46 hpw 3;have:ps.length=r.a9.length:=f00 ..;omega
theorem e3V{r:m9}(h:a3A r ⟨[],[],0,0⟩=true):r=⟨[],[],0,0⟩:=(c3g _ _).1 h
theorem e2s{e:m5}(h:z6 e=true)(hn:e.i8=true):e=eN:=by
 unfold z6 at h;rw [hn] at h;simp only [f1C,e9U,beq_iff_eq,List.cons.injEq,and_true] at h;obtain ⟨⟨h1,h2⟩,h3⟩:=h;have h4:=e3V h3;clear h3;obtain ⟨n,⟨a,b⟩,r⟩:=e;simp only at hn h1 h2 h4;subst hn h1 h2 h4;rfl
theorem c8u{r:m9}(h:S9 r=true):b40 r:=by
 obtain ⟨h1,h2,_,h4,h5⟩:=a7f h;have r4:=d30 h;have p4:=e9D h;exact ⟨R9 (by omega) fun x hx=>by have:=h4 x hx;exact ⟨w9 (by omega),w9 (by omega)⟩,
  R9 (by omega) fun x hx=>by have:=h5 x hx;exact ⟨w9 (by omega),w9 (by omega)⟩,w9 (by omega),w9 (by omega)⟩
theorem a2j{e:m5}(h:z6 e=true):E1 e:=by
 cases hn:e.i8 with
 | true=>rw [e2s h hn];exact b9T
 | false=>
  obtain ⟨h1,h2,h3,_⟩:=a9e h hn;exact ⟨⟨w9 (by omega),w9 (by omega)⟩,c8u h3⟩
theorem c9q{l:List m5}(hl:l.length<=1000)(h:∀e∈l,z6 e=true):A0 88 E1 l:=R9 (by omega) fun e he=>a2j (h e he)
def VI(v:m6):Prop:=v=v0\/(1<=v.a8/\v.a8<=3000/\z6 v.g9=true)
theorem e0R{v:m6}:Z8 v=true↔VI v:=by
 unfold Z8 VI;by_cases hb:v.a8=0
 ·simp only [hb,beq_self_eq_true,f1C,a30];constructor
  ·intro h;left;obtain ⟨b,e⟩:=v;simp only at hb h;subst hb h;rfl
  ·rintro (h|h)
   ·rw [h];rfl
   ·omega
 ·have:(v.a8==0)=false:=by simpa using hb
  simp only [this,f1D,e9U,H4];constructor
  ·intro h;exact .inr ⟨h.1.1,h.1.2,h.2⟩
  ·rintro (h|h)
   ·rw [h] at hb;exact absurd rfl hb
   ·exact ⟨⟨h.1,h.2.1⟩,h.2.2⟩
theorem VI.ok{v:m6}(h:VI v):G2 v:=by
 rcases h with rfl|⟨h1,h2,h3⟩
 ·exact b5L
 ·exact ⟨w9 (by omega),a2j h3⟩
theorem VI.bal{v:m6}(h:VI v):0<=v.a8/\v.a8<=3000:=by
 rcases h with rfl|⟨h1,h2,h3⟩
 ·exact ⟨by decide,by decide⟩
 ·exact ⟨by omega,h2⟩
theorem VI.zero{v:m6}(h:VI v)(hb:v.a8<=0):v=v0:=by
 rcases h with rfl|⟨h1,_⟩
 ·rfl
 ·omega
theorem VI.pos{v:m6}(h:VI v)(hb:v.a8>0):z6 v.g9=true:=by
 rcases h with rfl|⟨_,_,h⟩
 ·exact absurd hb (by decide)
 ·exact h
theorem a3G{l:List m6}(hl:l.length<=1000)(h:∀v∈l,VI v):A0 96 G2 l:=R9 (by omega) fun v hv=>(h v hv).ok
theorem a7d{l:List m6}:J6 l=true↔l.length<=40/\∀v∈l,VI v:=by
 unfold J6;simp only [e9U,decide_eq_true_eq,e9Y,e0R]
structure d43(id bal pr:Int)(best:List m6):Prop where
 b1:1<=bal
 b2:bal<=3000
 mod:e9Z bal 3=id
 pr:bal<=pr
 bl:best.length<=40
 bs:∀v∈best,VI v
abbrev Own(n:j8):Prop:=d43 n.Id n.a8 n.Acc.i5 n.i4
def a1x(n:j8):Prop:=
 (n.f0=0/\n.a8=0/\n.c9=[]/\n.i4=[]/\n.c8=zE/\n.a0=[])\/
 (n.f0=1/\Own n/\n.c9.length=3/\n.c9[n.Id.toNat]?=some true/\n.c8=zE/\n.a0=[])\/
 (n.f0=2/\Own n/\n.c9=[]/\n.c8=zE/\n.a0=[])\/
 (n.f0=3/\Own n/\n.c9=[]/\z6 n.c8=true/\n.a0.length=3/\n.a0[n.Id.toNat]?=some true/\n.a7.length<40)
def c1z(n:j8):Prop:=
 (n.j3=true/\D6 n.i7=true/\z6 n.b8=true/\n.b8.i8=false/\n.b8.a5=⟨n.Id,n.Seq⟩)\/(n.j3=false/\n.i7=[]/\n.b8=zE)
structure NI(n:j8):Prop where
 id:0<=n.Id/\n.Id<=2
 pr:0<=n.Acc.i5/\n.Acc.i5<=3000
 vl:n.Acc.a0.length<=40
 vs:∀v∈n.Acc.a0,VI v/\v.a8<=n.Acc.i5
 kl:n.a7.length<=40
 ks:∀e∈n.a7,z6 e=true
 sq:0<=n.Seq/\n.Seq<=1000
 ql:n.d6.length<=4
 qs:∀e∈n.d6,z6 e=true/\e.i8=false
 ld:a1x n
 wt:c1z n
theorem b2j{α:Type}{l:List α}:((l.length:Int)==0)=true↔l=[]:=by
 rw [beq_iff_eq];constructor
 ·intro h;exact e93 (by omega)
 ·rintro rfl;rfl
theorem e0T{α:Type}{l:List α}:((l.length:Int)=0)↔l=[]:=by rw [<-b2j,beq_iff_eq]
theorem c5R{l:List Bool}{id:Int}(h:0<=id/\id<=2):a4R l id=true↔l.length=3/\l[id.toNat]?=some true:=by
 unfold a4R b5J;have e:idx l id=l[id.toNat]?:=by unfold idx;rw [if_pos h.1]
 rw [e,e9U,beq_iff_eq];constructor
 ·rintro ⟨h1,h2⟩
  refine ⟨by omega,?_⟩;cases hq:l[id.toNat]? with
  | none=>rw [hq] at h2;cases h2
  | some b=>rw [hq] at h2;simp at h2;rw [h2]
 ·rintro ⟨h1,h2⟩
  exact ⟨by omega,by rw [h2];rfl⟩
theorem b8P{n:j8}:a3m n=true↔n.c8=zE/\n.a0=[]:=by
 unfold a3m;rw [e9U,a30,b2j]
theorem c9w{n:j8}(hid:0<=n.Id/\n.Id<=2):a1n n=true↔a1x n:=by
 have hown:(X2 n.a8==n.Id)=true/\n.a8<=n.Acc.i5/\J6 n.i4=true↔Own n:=by
  rw [a7d];constructor
  ·rintro ⟨h1,h2,h3⟩
   have hb:=H4.1 (c7M (H4.2 hid) h1);unfold X2 at h1;rw [H4.2 hb] at h1;exact ⟨hb.1,hb.2,by simpa using h1,h2,h3.1,h3.2⟩
  ·intro h;refine ⟨?_,h.pr,h.bl,h.bs⟩;unfold X2;rw [H4.2 ⟨h.b1,h.b2⟩];simpa using h.mod
 unfold a1n a1x;by_cases p0:n.f0=0
 ·simp only [p0,beq_self_eq_true,f1C,e9U,b8P,beq_iff_eq,e0T];constructor
  ·rintro ⟨a,b,c,d,e⟩;exact .inl ⟨trivial,a,b,c,d,e⟩
  ·rintro (h|h|h|h)
   ·exact ⟨h.2.1,h.2.2.1,h.2.2.2.1,h.2.2.2.2.1,h.2.2.2.2.2⟩
   all_goals exact absurd h.1 (by omega)
 ·have q0:(n.f0==0)=false:=by simpa using p0
  simp only [q0,f1D,e9U,decide_eq_true_eq];rw [<-and_assoc,<-and_assoc,and_assoc (a:=(X2 n.a8==n.Id)=true),hown];by_cases p1:n.f0=1
  ·simp only [p1,beq_self_eq_true,f1C,e9U,c5R hid,b8P];constructor
   ·rintro ⟨a,⟨b,c⟩,d,e⟩;exact .inr (.inl ⟨trivial,a,b,c,d,e⟩)
   ·rintro (h|h|h|h)
    ·exact absurd h.1 (by omega)
    ·exact ⟨h.2.1,⟨h.2.2.1,h.2.2.2.1⟩,h.2.2.2.2.1,h.2.2.2.2.2⟩
    all_goals exact absurd h.1 (by omega)
  ·have q1:(n.f0==1)=false:=by simpa using p1
   by_cases p2:n.f0=2
   ·have q2:(n.f0==2)=true:=by simpa using p2
    simp only [q1,q2,f1C,f1D,e9U,b2j,b8P];constructor
    ·rintro ⟨a,b,c,d⟩;exact .inr (.inr (.inl ⟨p2,a,b,c,d⟩))
    ·rintro (h|h|h|h)
     ·exact absurd h.1 (by omega)
     ·exact absurd h.1 (by omega)
     ·exact ⟨h.2.1,h.2.2.1,h.2.2.2.1,h.2.2.2.2⟩
     ·exact absurd h.1 (by omega)
   ·have q2:(n.f0==2)=false:=by simpa using p2
    by_cases p3:n.f0=3
    ·have q3:(n.f0==3)=true:=by simpa using p3
     simp only [q1,q2,q3,f1C,f1D,e9U,b2j,c5R hid,decide_eq_true_eq];constructor
     ·rintro ⟨a,b,c,⟨d,e⟩,f⟩;exact .inr (.inr (.inr ⟨p3,a,b,c,d,e,by omega⟩))
     ·rintro (h|h|h|h)
      ·exact absurd h.1 (by omega)
      ·exact absurd h.1 (by omega)
      ·exact absurd h.1 (by omega)
      ·exact ⟨h.2.1,h.2.2.1,h.2.2.2.1,⟨h.2.2.2.2.1,h.2.2.2.2.2.1⟩,by omega⟩
    ·have q3:(n.f0==3)=false:=by simpa using p3
     simp only [q1,q2,q3,f1D,f0Q,and_false,false_iff];rintro (h|h|h|h)<;>omega
theorem c4U{a b:s3}:(([a.d7,a.Seq]:List Int)==[b.d7,b.Seq])=true↔a=b:=by
 obtain ⟨a1,a2⟩:=a;obtain ⟨b1,b2⟩:=b;simp
theorem c87{n:j8}:a4E n=true↔c1z n:=by
 unfold a4E c1z;cases n.j3
 ·simp only [f1D,e9U,b2j,a30,f0Q,false_and,false_or,true_and]
 ·simp only [f1C,e9U,f0L,Bool.true_eq_false,false_and,or_false,true_and];rw [show (([n.b8.a5.d7,n.b8.a5.Seq]:List Int)==[n.Id,n.Seq])=true↔n.b8.a5=⟨n.Id,n.Seq⟩ from c4U (b:=⟨n.Id,n.Seq⟩)]
theorem a0l{n:j8}:D5 n=true↔NI n:=by
 unfold D5 O7 M9 b70;simp only [e9U,H4,a7d,e9Y,decide_eq_true_eq,f0L,decide_eq_false_iff_not];constructor
 ·rintro ⟨h1,⟨h2,h3,h4⟩,⟨h5,h6⟩,h7,h8,h9,h10,h11⟩
  exact ⟨h1,h2,h3.1,fun v hv=>⟨h3.2 v hv,by have:=h4 v hv;omega⟩,h5,h6,h7,by omega,h11,(c9w h1).1 h9,c87.1 h10⟩
 ·intro h;exact ⟨h.id,⟨h.pr,⟨h.vl,fun v hv=>(h.vs v hv).1⟩,fun v hv=>by have:=(h.vs v hv).2;omega⟩,⟨h.kl,h.ks⟩,h.sq,by have:=h.ql;omega,(c9w h.id).2 h.ld,c87.2 h.wt,h.qs⟩
theorem d6m{i:r9}(h:L8 i=true):b0v i:=by
 unfold L8 at h;by_cases k1:i.a6=1
 ·simp [k1,q8] at h;exact ⟨w9 (by omega),w9 (by omega),w9 (by omega),w9 (by omega)⟩
 by_cases k2:i.a6=2
 ·simp [k2,q8] at h;exact ⟨w9 (by omega),w9 (by omega),w9 (by omega),w9 (by omega)⟩
 by_cases k3:i.a6=3
 ·simp [k3,q8] at h;exact ⟨w9 (by omega),w9 (by omega),w9 (by omega),w9 (by omega)⟩
 by_cases k4:i.a6=4
 ·simp [k4,q8] at h;exact ⟨w9 (by omega),w9 (by omega),w9 (by omega),w9 (by omega)⟩
 by_cases k5:i.a6=5
 ·simp [k5,q8] at h;exact ⟨w9 (by omega),w9 (by omega),w9 (by omega),w9 (by omega)⟩
 by_cases k6:i.a6=6
 ·simp [k6,q8] at h;exact ⟨w9 (by omega),w9 (by omega),w9 (by omega),w9 (by omega)⟩
 by_cases k7:i.a6=7
 ·simp [k7] at h;exact ⟨w9 (by omega),w9 (by omega),w9 (by omega),w9 (by omega)⟩
 ·simp [k1,k2,k3,k4,k5,k6,k7] at h
theorem d1V{l:List r9}(h:D6 l=true):A0 32 b0v l:=by
 obtain ⟨h1,h2⟩:=b8V h;exact R9 (by omega) fun i hi=>d6m (h2 i hi)
theorem a1x.phase{n:j8}(h:a1x n):0<=n.f0/\n.f0<=3:=by
 rcases h with h|h|h|h<;>omega
theorem a1x.bal{n:j8}(h:a1x n):0<=n.a8/\n.a8<=3000:=by
 rcases h with h|h|h|h
 ·omega
 all_goals exact ⟨by have:=h.2.1.b1;omega,h.2.1.b2⟩
theorem a1x.best{n:j8}(h:a1x n):n.i4.length<=40/\∀v∈n.i4,VI v:=by
 rcases h with h|h|h|h
 ·rw [h.2.2.2.1];exact ⟨by simp,by simp⟩
 all_goals exact ⟨h.2.1.bl,h.2.1.bs⟩
theorem a1x.from3{n:j8}(h:a1x n):n.c9.length<=3/\n.a0.length<=3/\E1 n.c8:=by
 rcases h with h|h|h|h
 ·rw [h.2.2.1,h.2.2.2.2.2,h.2.2.2.2.1];exact ⟨by simp,by simp,V1⟩
 ·rw [h.2.2.2.2.2,h.2.2.2.2.1];exact ⟨by omega,by simp,V1⟩
 ·rw [h.2.2.1,h.2.2.2.1,h.2.2.2.2];exact ⟨by simp,by simp,V1⟩
 ·rw [h.2.2.1];exact ⟨by simp,by omega,a2j h.2.2.2.1⟩
theorem NI.ok{n:j8}(h:NI n):P5 n:=by
 have hf:=h.ld.from3;have hb:=h.ld.best;have hw:E1 n.b8/\A0 32 b0v n.i7:=by
  rcases h.wt with q|q
  ·exact ⟨a2j q.2.2.1,d1V q.2.1⟩
  ·rw [q.2.1,q.2.2];exact ⟨V1,O0⟩
 have hph:=h.ld.phase;have hbl:=h.ld.bal;have h1:=h.id;have h2:=h.pr;have h3:=h.sq;have h4:=h.vl;have h5:=h.kl;have h6:=h.ql;exact ⟨w9 (by omega),⟨w9 (by omega),a3G (by omega) fun v hv=>(h.vs v hv).1⟩,c9q (by omega) h.ks,w9 (by omega),w9 (by omega),w9 (by omega),
  R9 (by omega) (fun _ _=>trivial),a3G (by omega) hb.2,hf.2.2,R9 (by omega) (fun _ _=>trivial),hw.2,hw.1,c9q (by omega) fun e he=>(h.qs e he).1⟩
theorem NI.list{n:j8}(h:NI n):M9 n.a7=true:=by
 unfold M9;simp only [e9U,decide_eq_true_eq,e9Y];exact ⟨h.kl,h.ks⟩
def S8(m:j9):Prop:=
 ((m.a6=1\/m.a6=4)/\(1<=m.a8/\m.a8<=3000)/\m.g9=zE/\m.a0=[])\/
 (m.a6=2/\(1<=m.a8/\m.a8<=3000)/\m.g9=zE/\(m.a0.length<=40/\∀v∈m.a0,VI v)/\m.g8+m.a0.length<=40)\/
 (m.a6=3/\(1<=m.a8/\m.a8<=3000)/\m.g8<40/\z6 m.g9=true/\m.a0=[])\/
 (m.a6=5/\m.a8=0/\m.g8<40/\z6 m.g9=true/\m.a0=[])\/
 (m.a6=6/\(1<=m.a8/\m.a8<=3000)/\m.g8=0/\m.g9=zE/\m.a0=[])\/
 (m.a6=7/\m.a8=0/\m.g8=0/\z6 m.g9=true/\m.g9.i8=false/\m.a0=[])\/
 (m.a6=8/\m.a8=0/\m.g9=zE/\m.a0=[])
structure MI(m:j9):Prop where
 fr:0<=m.c9/\m.c9<=2
 to:0<=m.To/\m.To<=2
 ne:m.c9≠m.To
 sl:0<=m.g8/\m.g8<=40
 kd:S8 m
theorem c27{m:j9}:I4 m=true↔MI m:=by
 have hk:(0<=m.g8/\m.g8<=40)->(a5s m=true↔S8 m):=by
  intro hs;have hw:J6 m.a0=true->m4 (m.g8+(m.a0.length:Int))=m.g8+(m.a0.length:Int):=by
   intro hv;have:=(a7d.1 hv).1;exact B9 (by omega) (by omega)
  unfold a5s S8;simp only [Bool.cond_eq_ite];by_cases k1:m.a6=1
  ·simp [k1,H4,a30]
  by_cases k4:m.a6=4
  ·simp [k4,H4,a30]
  by_cases k2:m.a6=2
  ·simp only [k2,H4,a30,beq_self_eq_true,if_true,e9U,decide_eq_true_eq];simp only [show ((2:Int)==1)=false from rfl,show ((2:Int)==4)=false from rfl,f0Q,if_false,e9U,H4,a30,decide_eq_true_eq];constructor
   ·rintro ⟨a,b,c,d⟩
    rw [hw c] at d;exact .inr (.inl ⟨trivial,a,b,a7d.1 c,d⟩)
   ·rintro (h|h|h|h|h|h|h)
    ·omega
    ·have c:=a7d.2 h.2.2.2.1;exact ⟨h.2.1,h.2.2.1,c,by rw [hw c];exact h.2.2.2.2⟩
    all_goals exact absurd h.1 (by omega)
  by_cases k3:m.a6=3
  ·simp [k3,H4]
  by_cases k5:m.a6=5
  ·simp [k5]
  by_cases k6:m.a6=6
  ·simp [k6,H4,a30]
  by_cases k7:m.a6=7
  ·simp [k7]
  by_cases k8:m.a6=8
  ·simp [k8,a30]
  ·simp [k1,k2,k3,k4,k5,k6,k7,k8]
 unfold I4;simp only [e9U,H4,f0L,beq_eq_false_iff_ne];constructor
 ·rintro ⟨a,b,c,d,e⟩;exact ⟨a,b,c,d,(hk d).1 e⟩
 ·intro h;exact ⟨h.fr,h.to,h.ne,h.sl,(hk h.sl).2 h.kd⟩
theorem MI.ok{m:j9}(h:MI m):F9 m:=by
 have hf:=h.fr;have ht:=h.to;have hs:=h.sl;have hk:C3 m.a6/\C3 m.a8/\E1 m.g9/\A0 96 G2 m.a0:=by
  rcases h.kd with q|q|q|q|q|q|q
  ·rw [q.2.2.1,q.2.2.2];exact ⟨w9 (by omega),w9 (by omega),V1,O0⟩
  ·rw [q.2.2.1];exact ⟨w9 (by omega),w9 (by omega),V1,a3G (by omega) q.2.2.2.1.2⟩
  ·rw [q.2.2.2.2];exact ⟨w9 (by omega),w9 (by omega),a2j q.2.2.2.1,O0⟩
  ·rw [q.2.2.2.2];exact ⟨w9 (by omega),w9 (by omega),a2j q.2.2.2.1,O0⟩
  ·rw [q.2.2.2.2,q.2.2.2.1];exact ⟨w9 (by omega),w9 (by omega),V1,O0⟩
  ·rw [q.2.2.2.2.2];exact ⟨w9 (by omega),w9 (by omega),a2j q.2.2.2.1,O0⟩
  ·rw [q.2.2.1,q.2.2.2];exact ⟨w9 (by omega),w9 (by omega),V1,O0⟩
 exact ⟨hk.1,w9 (by omega),w9 (by omega),hk.2.1,w9 (by omega),hk.2.2.1,hk.2.2.2⟩
structure WI(w:m8):Prop where
 nl:w.b7.length=3
 ns:∀(i:Nat) (n:j8),w.b7[i]?=some n->n.Id=(i:Int)/\NI n
 ml:w.d8.length<=40
 ms:∀m∈w.d8,MI m
 al:w.g7.length<=60
 aq:∀a∈w.g7,Y8 a=true
 tl:w.Told.length<=60
 ts:∀t∈w.Told,R6 t=true
theorem b2b{w:m8}:L5 w=true↔WI w:=by
 unfold L5;simp only [e9U,beq_iff_eq,decide_eq_true_eq,e9Y,f0K,c27];constructor
 ·rintro ⟨h1,h2,h3,h4,h5,h6,h7,h8⟩
  refine ⟨by omega,?_,by omega,h6,by omega,h7,by omega,h8⟩;intro i n hn;have hi:=(e9W.1 hn).1;have:=h5 i hi;unfold a4O at this;rw [hn] at this;simp only [e9U,beq_iff_eq,a0l] at this;exact this
 ·intro h;have h2:=h.ml;have h3:=h.al;have h4:=h.tl;refine ⟨by have:=h.nl;omega,by omega,by omega,by omega,?_,h.ms,h.aq,h.ts⟩;intro i hi;unfold a4O;rw [e9Q hi];simp only [e9U,beq_iff_eq,a0l];exact h.ns i _ (e9Q hi)
theorem e31{a:C1}(h:Y8 a=true):c8I a:=by
 unfold Y8 at h;simp only [e9U,H4] at h;exact ⟨⟨w9 (by omega),w9 (by omega)⟩,d1V h.2⟩
theorem e4r{t:o8}(h:R6 t=true):c5q t:=by
 unfold R6 at h;simp only [e9U,H4] at h;exact ⟨w9 (by omega),⟨w9 (by omega),w9 (by omega)⟩,w9 (by omega),w9 (by omega)⟩
theorem WI.ok{w:m8}(h:WI w):a0w w:=by
 have h1:=h.nl;have h2:=h.ml;have h3:=h.al;have h4:=h.tl;refine ⟨R9 (by omega) ?_,R9 (by omega) fun m hm=>(h.ms m hm).ok,R9 (by omega) fun a ha=>e31 (h.aq a ha),R9 (by omega) fun t ht=>e4r (h.ts t ht)⟩;intro n hn;obtain ⟨i,hi⟩:=f07 hn;exact (h.ns i n hi).2.ok
theorem b5j(m o:j9):a3R m o=some [a0c m o]:=rfl
theorem c4h(n:j8)(b:Int):b3a n b=some (X6 n b):=by
 unfold b3a X6;cases n.f0 != 0
 ·rfl
 ·simp only [f1C,e99];cases decide (b>n.a8)<;>rfl
theorem e9a(n:j8)(b:Int):b1N n b=some (X6 n b):=by
 unfold b1N X6;cases n.f0 != 0
 ·rfl
 ·simp only [f1C,e99];cases decide (b>n.a8)<;>rfl
theorem e0e(n:j8)(b:Int):(X6 n b).Acc=n.Acc:=by
 unfold X6;cases n.f0 != 0&&decide (b>n.a8)<;>rfl
theorem a9l{a x:v6}{b:Int}(h:J4 a b=some x):x=⟨b,a.a0⟩/\1<=b/\b<=3000/\a.i5<=b:=by
 unfold J4 a6X at h;cases hq:q8 b 1 3000&&decide (a.i5<=b)
 ·rw [hq] at h;cases h
 ·rw [hq] at h;simp only [e9U,H4,decide_eq_true_eq] at hq;injection h with h;exact ⟨h.symm,hq.1.1,hq.1.2,hq.2⟩
theorem c3s{α:Type}(l:List α)(k:Nat):(l.drop k).take (l.length-k)=l.drop k:=by
 rw [f0q];simp
theorem d9x{n:j8}(h:P5 n){m:j9}(hs:0<=m.g8):b78 n m=some (a4N n m):=by
 unfold b78 a4N;rw [c0P,b3I];cases hp:J4 n.Acc m.a8 with
 | none=>rfl
 | some a=>
  obtain ⟨rfl,_⟩:=a9l hp;simp only [a4n,e9P,e9V,f1D,e9a];have ha:=e0e {n with Acc:=⟨m.a8,n.Acc.a0⟩} m.a8;have hy:∀y:j8,y.Acc=⟨m.a8,n.Acc.a0⟩->(j8.mk y.Id (v6.mk y.Acc.i5 n.Acc.a0) y.a7 y.Seq y.f0 y.a8 y.c9 y.i4 y.c8 y.a0 y.j3 y.i7 y.b8 y.d6)=y:=by
   intro y hy;obtain ⟨y1,y2,y3,y4,y5,y6,y7,y8,y9,y10,y11,y12,y13,y14⟩:=y;simp only at hy;subst hy;rfl
  rw [hy _ ha];obtain ⟨k,hk⟩:∃k:Nat,m.g8=(k:Int):=⟨m.g8.toNat,by omega⟩
  rw [hk,f0k,c3s];cases hd:decide ((k:Int)<(n.Acc.a0.length:Int))
  ·simp only [f1D,b5j,e9P];rw [e97 (by simp at hd;omega)]
  ·simp only [f1C];rw [t6 (by simp at hd;omega),e38 (e0x h.2.1.2 (by simp) fun x hx=>f0J hx),e9P,b5j,e9P]
theorem e4R{n:j8}{m:j9}(hm:F9 m):b4U n m=some (a4u n m):=by
 have he:E1 m.g9:=hm.2.2.2.2.2.1;unfold b4U a4u;rw [d0P he,c0b he];cases O3 n.Acc m.a8 m.g8 m.g9 with
 | none=>rfl
 | some a=>simp only [a4n,e9P,e9V,f1D,c4h,b5j]
theorem b4H{l:List Bool}(h:l.length<=3):u5 l:=by unfold u5;omega
theorem d6u{n:j8}(h:NI n){m:j9}(hm:MI m)(hk:m.a6=2):b6h n m=some (a4K n m):=by
 have hkd:(m.a0.length<=40/\∀v∈m.a0,VI v)/\m.g8+m.a0.length<=40:=by
  rcases hm.kd with q|q|q|q|q|q|q
  ·omega
  ·exact ⟨q.2.2.2.1,q.2.2.2.2⟩
  all_goals exact absurd q.1 (by omega)
 have hs:=hm.sl;have hf:=hm.fr;unfold b6h a4K;by_cases p1:n.f0=1
 ·rw [show (n.f0 != 1)=false by simp [p1],f0t];simp only [f1D];cases hb:m.a8 != n.a8
  ·simp only [f1D];have hl:n.c9.length=3/\Own n:=by
    rcases h.ld with q|q|q|q
    ·omega
    ·exact ⟨q.2.2.1,q.2.1⟩
    all_goals exact absurd q.1 (by omega)
   obtain ⟨f,hff⟩:∃f:Nat,m.c9=(f:Int):=⟨m.c9.toNat,by omega⟩
   have hvo:A0 96 G2 (e9R m.g8.toNat v0++m.a0):=a3G (by simp;omega) (by
    intro v hv;rcases e9S.1 hv with q|q
    ·rw [(f0s.1 q).2];exact .inl rfl
    ·exact hkd.1.2 v q)
   have hz:∀v∈e9R m.g8.toNat v0++m.a0,v.a8<=0->v=v0:=by
    intro v hv hb;rcases e9S.1 hv with q|q
    ·exact (f0s.1 q).2
    ·exact (hkd.1.2 v q).zero hb
   rw [hff,u6 (show f<n.c9.length by omega),e9P,e4m (a3G (by omega) hkd.1.2) hkd.1.1 hs,e9P,e4U (a3G (by have:=hl.2.bl;omega) hl.2.bs) hvo (by have:=hl.2.bl;omega) (by simp;omega) hz,e9P,d0F (b4H (by simp;omega)),e9P];cases htw:U3 (n.c9.set (f:Int).toNat true)
   ·simp only [f0a,f1C,f1D]
   ·simp only [e9V,f1D,f1C];have hbl:=a9b n.i4 (e9R m.g8.toNat v0++m.a0);have hob:=hl.2.bl;have hlen:(e9R m.g8.toNat v0++m.a0).length<=40:=by simp;omega
    obtain ⟨h1,h2,h3,h4,h5,h6,h7,h8,h9,h10,h11,h12,h13⟩:=h.ok;rw [b1o (n:=⟨n.Id,n.Acc,n.a7,n.Seq,2,n.a8,[],E7 n.i4 (e9R m.g8.toNat v0++m.a0),n.c8,n.a0,n.j3,n.i7,n.b8,n.d6⟩) ⟨h1,h2,h3,h4,w9 (n:=2) (by omega),h6,O0,a3G (by show (E7 n.i4 (e9R m.g8.toNat v0++m.a0)).length<=1000;omega) (fun v hv=>(b8g hv).elim (fun q=>hl.2.bs v q) (fun q=>(e9S.1 q).elim (fun q=>by rw [(f0s.1 q).2];exact .inl rfl) (hkd.1.2 v))),h9,h10,h11,h12,h13⟩ h.id,e9P]
  ·rfl
 ·rw [show (n.f0 != 1)=true by simpa using p1];rfl
theorem a0g(id:Int)(m:j9):(N5 id m).length<=3:=by
 unfold N5;rw [f00];exact List.length_filter_le _ _
theorem a6M(n:j8):(T0 n).2.length<=3:=by
 unfold T0 a9g;cases n.f0 != 2||decide (40<=n.a7.length)
 ·simp only [f1D];cases a09 n with
  | mk x o=>
   cases o with
   | none=>simp
   | some e=>
    simp only;cases O3 x.Acc x.a8 (x.a7.length:Int) e with
    | none=>simp
    | some a=>exact a0g _ _
 ·simp
theorem e63{n:j8}(h:NI n){m:j9}(hm:MI m):b5b n m=some (a5j n m):=by
 have hf:=hm.fr;unfold b5b a5j;by_cases p3:n.f0=3
 ·rw [show (n.f0 != 3)=false by simp [p3],f0t];simp only [f1D];cases hb:m.a8 != n.a8
  ·simp only [f1D,f0t];cases hs:m.g8 != (n.a7.length:Int)
   ·simp only [f1D];have hl:n.a0.length=3/\z6 n.c8=true/\n.a7.length<40:=by
     rcases h.ld with q|q|q|q
     ·omega
     ·omega
     ·omega
     ·exact ⟨q.2.2.2.2.1,q.2.2.2.1,q.2.2.2.2.2.2⟩
    obtain ⟨f,hff⟩:∃f:Nat,m.c9=(f:Int):=⟨m.c9.toNat,by omega⟩
    have hcur:=a2j hl.2.1;rw [hff,u6 (show f<n.a0.length by omega),e9P,d0F (b4H (by simp;omega)),e9P];cases htw:U3 (n.a0.set (f:Int).toNat true)
    ·simp only [f0a,f1C,f1D]
    ·simp only [e9V,f1D,f1C];obtain ⟨h1,h2,h3,h4,h5,h6,h7,h8,h9,h10,h11,h12,h13⟩:=h.ok;rw [a0s hcur,e9P,a4V h.id (a8p (w9 (by omega)) a0e (w9 (by omega)) hcur O0),e9P,
      c9I (n:={n with a0:=n.a0.set (f:Int).toNat true}) ⟨h1,h2,h3,h4,h5,h6,h7,h8,h9,R9 (by simp;omega) (fun _ _=>trivial),h11,h12,h13⟩ h.id h.list hl.2.2 hcur hl.2.1,e9P,t6]
     have e1:=a0g n.Id ⟨5,0,0,0,(n.a7.length:Int),n.c8,[]⟩;have e2:=a6M (W4 (T4 {n with a0:=n.a0.set (f:Int).toNat true} n.c8)).1;have e3:(a02 {n with a0:=n.a0.set (f:Int).toNat true} n.c8).2.1.length<=3:=e2;omega
   ·rfl
  ·rfl
 ·rw [show (n.f0 != 3)=true by simpa using p3];rfl
theorem e4V{n:j8}(h:NI n){m:j9}(hm:MI m)(hk:m.a6=5):b8j n m=some (a43 n m):=by
 have hkd:m.g8<40/\z6 m.g9=true:=by
  rcases hm.kd with q|q|q|q|q|q|q
  ·omega
  ·omega
  ·omega
  ·exact ⟨q.2.2.1,q.2.2.2.1⟩
  all_goals exact absurd q.1 (by omega)
 unfold b8j a43;cases h1:decide (m.g8<(n.a7.length:Int))
 ·cases h2:decide (m.g8>(n.a7.length:Int))
  ·simp only [f1D];have hl:n.a7.length<40:=by simp at h1 h2;omega
   rw [c9I h.ok h.id h.list hl (a2j hkd.2) hkd.2,e9P]
  ·rfl
 ·rfl
theorem d6b{n:j8}(h:NI n){m:j9}(hm:MI m):b77 n m=some (a4J n m):=by
 have he:E1 m.g9:=hm.ok.2.2.2.2.2.1;have hql:=h.ql;unfold b77 a4J;rw [show decide ((n.d6.length:Int)>=4)=decide (4<=n.d6.length) by simp;omega,b5i (h.ok.2.2.1.fits (by decide)),a0s he];cases n.f0==0
 ·simp only [f1D,f0t];cases decide (4<=n.d6.length)
  ·simp only [f1D,f0t,e9P];cases N3 n.a7 m.g9.a5
   ·obtain ⟨h1,h2,h3,h4,h5,h6,h7,h8,h9,h10,h11,h12,h13⟩:=h.ok;simp only [f1D];rw [t6 (by omega),b1o (n:={n with d6:=n.d6++[m.g9]}) ⟨h1,h2,h3,h4,h5,h6,h7,h8,h9,h10,h11,h12,R9 (by simp;omega) (by
     intro x hx;rcases e9S.1 hx with q|q
     ·exact h13.2 x q
     ·rw [e92.1 q];exact he)⟩ h.id,e9P]
   ·rfl
  ·rfl
 ·rfl
theorem b4l{n:j8}(m:j9){k:Nat}(hk:k<n.a7.length):a1E n m k=[a0c m ⟨5,0,0,0,(k:Int),n.a7[k],[]⟩]:=by
 unfold a1E;rw [e9Q hk]
theorem c6a{n:j8}(h:NI n)(m:j9):∀(d k:Nat) (o:List j9),n.a7.length-k=d->o.length<=k->s2 (fun s:(List j9)×Int=>a4S n m s.1 s.2) (o,(k:Int))=some (.brk (o++((e91 d).map fun j=>a1E n m (k+j)).flatten))
 | 0,k,o,hd,ho=>by
  have hkl:=h.kl;refine (D7 (b:=o) ?_).trans (by simp);show a4S n m o (k:Int)=_
  unfold a4S;rw [show decide ((k:Int)<(n.a7.length:Int))=false by simp;omega];rfl
 | d+1,k,o,hd,ho=>by
  have hkl:=h.kl;have hlt:k<n.a7.length:=by omega
  have hb:a4S n m o (k:Int)=some (.nxt (o++a1E n m k,((k+1:Nat):Int))):=by
   unfold a4S;rw [z0 _ k hlt,u6 hlt,f1C,e9P,a0s (a2j (h.ks _ (e9T hlt))),e9P,b5j,e9P,t6 (by simp;omega),b4l m hlt,G1 (h.ok.2.2.1.fits (by decide)) hlt]
  rw [F4 (body:=fun s:(List j9)×Int=>a4S n m s.1 s.2) (s:=(o,(k:Int))) hb,c6a h m d (k+1) _ (by omega) (by rw [b4l m hlt];simp;omega)];rw [List.range_succ_eq_map,f0m,f0g,e95,f1o];simp only [f04,Function.comp_def,Nat.succ_eq_add_one,Nat.add_assoc,Nat.add_comm 1]
theorem e5g{n:j8}(h:NI n){m:j9}(hs:0<=m.g8):b5F n m=some (a50 n m,n):=by
 unfold b5F a50;obtain ⟨k,hk⟩:∃k:Nat,m.g8=(k:Int):=⟨m.g8.toNat,by omega⟩
 rw [hk];have:=c6a h m (n.a7.length-k) k [] rfl (by simp);rw [this];rfl
theorem d3F{n:j8}(h:NI n){m:j9}(hm:MI m):b3y n m=some (a1B n m):=by
 unfold b3y a1B;rw [d9x h.ok hm.sl.1,e4R hm.ok,e63 h hm,d6b h hm,e5g h hm.sl.1,b3I];by_cases k1:m.a6=1
 ·simp [k1];rfl
 rw [show (m.a6==1)=false by simpa using k1];by_cases k2:m.a6=2
 ·rw [d6u h hm k2];simp [k2];rfl
 rw [show (m.a6==2)=false by simpa using k2];by_cases k3:m.a6=3
 ·simp [k3];rfl
 rw [show (m.a6==3)=false by simpa using k3];by_cases k4:m.a6=4
 ·simp [k4];rfl
 rw [show (m.a6==4)=false by simpa using k4];by_cases k5:m.a6=5
 ·rw [e4V h hm k5];simp [k5];rfl
 rw [show (m.a6==5)=false by simpa using k5];by_cases k6:m.a6=6
 ·rw [show (m.a6==6)=true by simpa using k6];simp only [f1C,f1D,e9P];cases J4 n.Acc m.a8<;>simp only [c4h,e9P,Option.getD_none,f0X]<;>rfl
 rw [show (m.a6==6)=false by simpa using k6];by_cases k7:m.a6=7
 ·simp [k7];rfl
 rw [show (m.a6==7)=false by simpa using k7];cases m.a6==8
 ·rfl
 ·simp only [f1C,f1D,e9P];rw [t6 trivial,t6 trivial,t6 trivial,t6 trivial,t6 trivial];rfl
theorem c1Y{a x:v6}{b s:Int}{e:m5}(h:O3 a b s e=some x):∃k:Nat,s=(k:Int)/\k<40/\z6 e=true/\1<=b/\b<=3000/\a.i5<=b/\x=⟨b,(U7 a.a0 (k+1)).set k ⟨b,e⟩⟩:=by
 unfold O3 at h;cases hq:q8 s 0 39&&z6 e
 ·rw [hq] at h;cases h
 ·rw [hq,f1C] at h;simp only [e9U,H4] at hq;cases hp:J4 a b with
  | none=>rw [hp] at h;cases h
  | some y=>
   rw [hp] at h;obtain ⟨rfl,h1,h2,h3⟩:=a9l hp;injection h with h;refine ⟨s.toNat,by omega,by omega,hq.2,h1,h2,h3,h.symm⟩
theorem b5N{a:v6}{b:Int}(h1:1<=b)(h2:b<=3000)(h3:a.i5<=b):J4 a b=some ⟨b,a.a0⟩:=by
 unfold J4 a6X;rw [H4.2 ⟨h1,h2⟩,show decide (a.i5<=b)=true by simpa using h3];rfl
theorem e6z{a:v6}{b:Int}{k:Nat}{e:m5}(hk:k<40)(he:z6 e=true)(h1:1<=b)(h2:b<=3000)(h3:a.i5<=b):O3 a b (k:Int) e=some ⟨b,(U7 a.a0 (k+1)).set k ⟨b,e⟩⟩:=by
 unfold O3;rw [H4.2 (show 0<=(k:Int)/\(k:Int)<=39 by omega),he,b5N h1 h2 h3];rfl
theorem d19{vs:List m6}{n:Nat}{v:m6}(h:v∈U7 vs n):v∈vs\/v=v0:=by
 rcases e9S.1 h with q|q
 ·exact .inl q
 ·exact .inr (f0s.1 q).2
theorem e3Q{α:Type}{l:List α}{k:Nat}{x v:α}(h:v∈l.set k x):v∈l\/v=x:=f0b h
theorem NI.queue{n:j8}(h:NI n){q:List m5}(hl:q.length<=4)(hm:∀e∈q,z6 e=true/\e.i8=false):NI {n with d6:=q}:=
 ⟨h.id,h.pr,h.vl,h.vs,h.kl,h.ks,h.sq,hl,hm,h.ld,h.wt⟩
theorem NI.down{n:j8}(h:NI n):NI (a7b n):=
 ⟨h.id,h.pr,h.vl,h.vs,h.kl,h.ks,h.sq,h.ql,h.qs,.inl ⟨rfl,rfl,rfl,rfl,rfl,rfl⟩,h.wt⟩
theorem NI.freeN{n:j8}(h:NI n):NI (a4Z n):=
 ⟨h.id,h.pr,h.vl,h.vs,h.kl,h.ks,h.sq,h.ql,h.qs,h.ld,.inr ⟨rfl,rfl,rfl⟩⟩
theorem NI.acc{n:j8}(h:NI n){a:v6}(h1:0<=a.i5/\a.i5<=3000)(h2:a.a0.length<=40)(h3:∀v∈a.a0,VI v/\v.a8<=a.i5)(h4:n.Acc.i5<=a.i5):NI {n with Acc:=a}:=by
 have ho:Own n->Own {n with Acc:=a}:=fun o=>⟨o.b1,o.b2,o.mod,Int.le_trans o.pr h4,o.bl,o.bs⟩
 refine ⟨h.id,h1,h2,h3,h.kl,h.ks,h.sq,h.ql,h.qs,?_,h.wt⟩;rcases h.ld with q|q|q|q
 ·exact .inl q
 ·exact .inr (.inl ⟨q.1,ho q.2.1,q.2.2⟩)
 ·exact .inr (.inr (.inl ⟨q.1,ho q.2.1,q.2.2⟩))
 ·exact .inr (.inr (.inr ⟨q.1,ho q.2.1,q.2.2⟩))
theorem NI.promise{n:j8}(h:NI n){b:Int}{x:v6}(hp:J4 n.Acc b=some x):NI {n with Acc:=x}:=by
 obtain ⟨rfl,h1,h2,h3⟩:=a9l hp;exact h.acc ⟨by simp only;omega,h2⟩ h.vl (fun v hv=>⟨(h.vs v hv).1,Int.le_trans (h.vs v hv).2 h3⟩) h3
theorem d8N{vs:List m6}{p b:Int}{k:Nat}{e:m5}(hk:k<40)(hl:vs.length<=40)(hv:∀v∈vs,VI v/\v.a8<=p)(he:z6 e=true)(h1:1<=b)(h2:b<=3000)(h3:p<=b) :
  ((U7 vs (k+1)).set k ⟨b,e⟩).length<=40/\∀v∈(U7 vs (k+1)).set k ⟨b,e⟩,VI v/\v.a8<=b:=by
 refine ⟨by rw [f0B,b9o];omega,fun v hm => ?_⟩;rcases e3Q hm with q|q
 ·rcases d19 q with q|q
  ·exact ⟨(hv v q).1,Int.le_trans (hv v q).2 h3⟩
  ·rw [q];exact ⟨.inl rfl,by show (0:Int)<=b;omega⟩
 ·rw [q];exact ⟨.inr ⟨h1,h2,he⟩,Int.le_refl _⟩
theorem NI.cast{n:j8}(h:NI n){b s:Int}{e:m5}{x:v6}(hc:O3 n.Acc b s e=some x):NI {n with Acc:=x}:=by
 obtain ⟨k,rfl,hk,he,h1,h2,h3,rfl⟩:=c1Y hc;obtain ⟨a,b'⟩:=d8N hk h.vl h.vs he h1 h2 h3;exact h.acc ⟨by simp only;omega,h2⟩ a b' h3
theorem NI.yield{n:j8}(h:NI n)(b:Int):NI (X6 n b):=by
 unfold X6;cases n.f0 != 0&&decide (b>n.a8)
 ·exact h
 ·exact h.down
theorem b83{id:Int}(h:0<=id/\id<=2):(a68 id).length=3/\(a68 id)[id.toNat]?=some true:=by
 unfold a68;refine ⟨by simp,?_⟩;rw [f0V (by simp;omega)]
theorem a2S.right{n:j8}(h:NI n){e:m5}(hn:a2S n e):z6 e=true:=by
 cases hn with
 | best v hv hb=>exact (h.ld.best.2 v (e96 hv)).pos hb
 | gap=>rfl
 | want hb=>
  rcases h.wt with q|q
  ·exact q.2.2.1
  ·rw [hb] at q;cases q.1
 | queue e hq=>exact (h.qs e hq).1
theorem e6e{id:Int}{m x:j9}(hid:0<=id/\id<=2)(h:x∈N5 id m):∃t:Int,0<=t/\t<=2/\t≠id/\x={m with c9:=id,To:=t}:=by
 unfold N5 at h;obtain ⟨t,ht,rfl⟩:=f0n.1 h;obtain ⟨h1,h2⟩:=f0E.1 ht;refine ⟨t,?_,?_,by simpa using h2,rfl⟩;all_goals simp at h1;omega
theorem a6p{id:Int}{m:j9}(hid:0<=id/\id<=2)(hk:S8 m)(hs:0<=m.g8/\m.g8<=40):∀x∈N5 id m,MI x:=by
 intro x hx;obtain ⟨t,h1,h2,h3,rfl⟩:=e6e hid hx;exact ⟨hid,⟨h1,h2⟩,fun q=>h3 q.symm,hs,hk⟩
theorem a8O{m o:j9}(hm:MI m)(hk:S8 o)(hs:0<=o.g8/\o.g8<=40):MI (a0c m o):=⟨hm.to,hm.fr,fun q=>hm.ne q.symm,hs,hk⟩
theorem S8.one{k b s:Int}(hk:k=1\/k=4)(hb:1<=b/\b<=3000):S8 ⟨k,0,0,b,s,zE,[]⟩:=.inl ⟨hk,hb,rfl,rfl⟩
theorem S8.accept{b s:Int}{e:m5}(hb:1<=b/\b<=3000)(hs:s<40)(he:z6 e=true):S8 ⟨3,0,0,b,s,e,[]⟩:=.inr (.inr (.inl ⟨rfl,hb,hs,he,rfl⟩))
theorem S8.chosen{s:Int}{e:m5}(hs:s<40)(he:z6 e=true):S8 ⟨5,0,0,0,s,e,[]⟩:=.inr (.inr (.inr (.inl ⟨rfl,rfl,hs,he,rfl⟩)))
theorem S8.refuse{b:Int}(hb:1<=b/\b<=3000):S8 ⟨6,0,0,b,0,zE,[]⟩:=.inr (.inr (.inr (.inr (.inl ⟨rfl,hb,rfl,rfl,rfl⟩))))
theorem S8.ask{e:m5}(he:z6 e=true)(hn:e.i8=false):S8 ⟨7,0,0,0,0,e,[]⟩:=.inr (.inr (.inr (.inr (.inr (.inl ⟨rfl,rfl,rfl,he,hn,rfl⟩)))))
theorem S8.need{s:Int}:S8 ⟨8,0,0,0,s,zE,[]⟩:=.inr (.inr (.inr (.inr (.inr (.inr ⟨rfl,rfl,rfl,rfl⟩)))))
structure R7(n:j8)(x:j8×List j9):Prop where
 ni:NI x.1
 id:x.1.Id=n.Id
 ms:∀m∈x.2,MI m
theorem R7.same{n:j8}(h:NI n):R7 n (n,[]):=⟨h,rfl,by simp⟩
theorem R7.to{n n':j8}(hi:n'.Id=n.Id){x:j8×List j9}(h:R7 n' x):R7 n x:=⟨h.ni,h.id.trans hi,h.ms⟩
theorem b1V{n:j8}(h:NI n):R7 n (T0 n):=by
 unfold T0;cases hc:n.f0 != 2||decide (40<=n.a7.length)
 ·simp only [f1D];simp only [f1v,bne_eq_false_iff_eq,decide_eq_false_iff_not] at hc;obtain ⟨q,hq,hql,hqm,hqe⟩:=b4O n;cases hx:a09 n with
  | mk x o=>
  rw [hx] at hq hqe;have hq:x={n with d6:=q}:=hq;have hn:NI {n with d6:=q}:=h.queue (by have:=h.ql;omega) fun e he=>h.qs e (hqm e he)
  subst hq;cases o with
  | none=>exact ⟨hn,rfl,by simp⟩
  | some e=>
   have he:=(hqe e rfl).right h;simp only [a9g];have ho:Own n:=by
    rcases h.ld with q|q|q|q
    ·omega
    ·omega
    ·exact q.2.1
    ·omega
   cases hcs:O3 n.Acc n.a8 (n.a7.length:Int) e with
   | none=>exact ⟨hn.down,rfl,by simp⟩
   | some a=>
    have hac:=hn.cast (b:=n.a8) (s:=(n.a7.length:Int)) (e:=e) hcs;obtain ⟨k,hk,hk40,_,h1,h2,h3,rfl⟩:=c1Y hcs;refine ⟨⟨h.id,hac.pr,hac.vl,hac.vs,h.kl,h.ks,h.sq,hn.ql,hn.qs,?_,h.wt⟩,rfl,a6p h.id (.accept ⟨h1,h2⟩ (by omega) he) (by simp only;omega)⟩;refine .inr (.inr (.inr ⟨rfl,⟨ho.b1,ho.b2,ho.mod,Int.le_refl _,ho.bl,ho.bs⟩,?_,he,(b83 h.id).1,(b83 h.id).2,by simp only;omega⟩));rcases h.ld with q|q|q|q
    ·omega
    ·omega
    ·exact q.2.2.1
    ·omega
 ·exact .same h
theorem NI.know{n:j8}(h:NI n){e:m5}(he:z6 e=true)(hl:n.a7.length<40):NI (T4 n e):=by
 have hks:∀x∈n.a7++[e],z6 x=true:=by
  intro x hx;rcases e9S.1 hx with q|q
  ·exact h.ks x q
  ·rw [e92.1 q];exact he
 have hkl:(n.a7++[e]).length<=40:=by simp;omega
 unfold T4;by_cases p3:n.f0=3
 ·rw [show (n.f0==3)=true by simpa using p3];refine ⟨h.id,h.pr,h.vl,h.vs,hkl,hks,h.sq,h.ql,h.qs,?_,h.wt⟩;rcases h.ld with q|q|q|q
  ·omega
  ·omega
  ·omega
  ·exact .inr (.inr (.inl ⟨rfl,⟨q.2.1.b1,q.2.1.b2,q.2.1.mod,q.2.1.pr,q.2.1.bl,q.2.1.bs⟩,q.2.2.1,rfl,rfl⟩))
 ·rw [show (n.f0==3)=false by simpa using p3];refine ⟨h.id,h.pr,h.vl,h.vs,hkl,hks,h.sq,h.ql,h.qs,?_,h.wt⟩;rcases h.ld with q|q|q|q
  ·exact .inl q
  ·exact .inr (.inl ⟨q.1,⟨q.2.1.b1,q.2.1.b2,q.2.1.mod,q.2.1.pr,q.2.1.bl,q.2.1.bs⟩,q.2.2⟩)
  ·exact .inr (.inr (.inl ⟨q.1,⟨q.2.1.b1,q.2.1.b2,q.2.1.mod,q.2.1.pr,q.2.1.bl,q.2.1.bs⟩,q.2.2⟩))
  ·exact absurd q.1 p3
theorem e8J{s:u9}{e:m5}(hn:e.i8=false):0<=(apply s e).2/\(apply s e).2<=4:=by
 have hf:0<=(a1d s e).2/\(a1d s e).2<=4:=by
  unfold a1d;cases a3H s.i0 e.b9
  ·exact ⟨by simp,by simp⟩
  ·cases e.b9.Code==0<;>exact ⟨by simp,by simp⟩
 unfold apply;rw [hn];simp only [f1D];cases s.i9.find? fun d=>d.a5.d7==e.a5.d7 with
 | none=>exact hf
 | some d=>
  simp only;cases d.a5.Seq==e.a5.Seq
  ·cases decide (d.a5.Seq>e.a5.Seq)
   ·exact hf
   ·exact ⟨by simp,by simp⟩
  ·exact ⟨by simp,by simp⟩
theorem c3N{l:List m5}{q:s3}{k:Nat}(h:l.findIdx? (N9 q)=some k):∃hk:k<l.length,l[k].i8=false/\l[k].a5=q:=by
 rw [f0W] at h;obtain ⟨hk,h1,_⟩:=h;unfold N9 at h1;simp only [e9U,f0L] at h1;exact ⟨hk,h1.1,c4U.1 h1.2⟩
theorem d9Y{l:List m5}(h:M9 l=true){k:Nat}(hk:k<l.length):a0t l k=(apply (A2 (l.take k)).1 l[k]).2:=by
 obtain ⟨a,b⟩:=a7N h;unfold a0t;rw [d1f a b hk];rfl
theorem d8H{l:List m5}(h:∀e∈l,z6 e=true)(q:s3):-1000000<=a40 l q/\a40 l q<=1000000:=by
 unfold a40;cases hf:l.findIdx? (N9 q) with
 | none=>exact ⟨by simp,by simp⟩
 | some k=>
  obtain ⟨hk,h1,h2⟩:=c3N hf;simp only [e9Q hk];exact (a7f (a9e (h _ (e9T hk)) h1).2.2.1).2.1
theorem e21{n:j8}(h:NI n):NI (W4 n).1/\∀t∈(W4 n).2,R6 t=true:=by
 rcases b4K n with q|⟨k,hb,hk,q⟩<;>rw [q]
 ·exact ⟨h,by simp⟩
 ·refine ⟨h.freeN,fun t ht => ?_⟩;obtain ⟨hkl,h1,h2⟩:=c3N hk;have ht:=e92.1 ht;subst ht;have hw:n.b8.a5=⟨n.Id,n.Seq⟩/\z6 n.b8=true/\n.b8.i8=false:=by
   rcases h.wt with q|q
   ·exact ⟨q.2.2.2.2,q.2.2.1,q.2.2.2.1⟩
   ·rw [hb] at q;cases q.1
  obtain ⟨w1,w2,_⟩:=a9e hw.2.1 hw.2.2;have hc:=e8J (s:=(A2 (n.a7.take k)).1) h1;rw [<-d9Y h.list hkl] at hc;have hv:=d8H h.ks n.b8.a5;unfold R6;simp only [e9U,H4,beq_iff_eq];refine ⟨h.id,⟨w1,w2⟩,by rw [hw.1],hc,?_⟩;cases a0t n.a7 k==0
  ·exact ⟨by simp,by simp⟩
  ·exact hv
structure a6c(n:j8)(x:j8×List j9×List o8):Prop where
 ni:NI x.1
 id:x.1.Id=n.Id
 ms:∀m∈x.2.1,MI m
 ts:∀t∈x.2.2,R6 t=true
theorem R7.three{n:j8}{x:j8×List j9}(h:R7 n x):a6c n (x.1,x.2,[]):=⟨h.ni,h.id,h.ms,by simp⟩
theorem a6c.same{n:j8}(h:NI n):a6c n (n,[],[]):=⟨h,rfl,by simp,by simp⟩
theorem c4j{n:j8}(h:NI n){e:m5}(he:z6 e=true)(hl:n.a7.length<40):a6c n (a02 n e):=by
 have h1:=h.know he hl;obtain ⟨h2,h3⟩:=e21 h1;have h4:=b1V h2;exact ⟨h4.ni,h4.id.trans ((c93 _).trans (c8i _ _)),h4.ms,h3⟩
theorem e0P{a:v6}{b:Int}(h:J4 a b=none)(hb:1<=b/\b<=3000):b<a.i5:=by
 by_cases q:a.i5<=b
 ·rw [b5N hb.1 hb.2 q] at h;cases h
 ·omega
theorem e3R{n:j8}(h:NI n){m:j9}(hm:MI m)(hk:m.a6=1):R7 n (a4N n m):=by
 have hb:1<=m.a8/\m.a8<=3000:=by
  rcases hm.kd with q|q|q|q|q|q|q
  ·exact q.2.1
  all_goals exact absurd q.1 (by omega)
 have hs:=hm.sl;unfold a4N;cases hp:J4 n.Acc m.a8 with
 | none=>
  have:=e0P hp hb;refine ⟨h,rfl,fun x hx => ?_⟩;rw [e92.1 hx];exact a8O hm (.refuse (by have:=h.pr;omega)) (by simp)
 | some a=>
  have hn:=(h.promise hp).yield m.a8;obtain ⟨rfl,_⟩:=a9l hp;refine ⟨hn,?_,fun x hx => ?_⟩
  ·simp only [X6];cases n.f0 != 0&&decide (m.a8>n.a8)<;>rfl
  ·rw [e92.1 hx];have hvl:=h.vl;refine a8O hm (.inr (.inl ⟨rfl,hb,rfl,⟨by simp;omega,fun v hv=>(h.vs v (f0J hv)).1⟩,by simp;omega⟩)) hs
theorem b1b(n:j8)(b:Int):(X6 n b).Id=n.Id:=by
 unfold X6;cases n.f0 != 0&&decide (b>n.a8)<;>rfl
theorem e9y{a:v6}{b:Int}{k:Nat}{e:m5}(h:O3 a b (k:Int) e=none)(hk:k<40)(he:z6 e=true)(hb:1<=b/\b<=3000):b<a.i5:=by
 by_cases q:a.i5<=b
 ·rw [e6z hk he hb.1 hb.2 q] at h;cases h
 ·omega
theorem e5o{n:j8}(h:NI n){m:j9}(hm:MI m)(hk:m.a6=3):R7 n (a4u n m):=by
 have hb:(1<=m.a8/\m.a8<=3000)/\m.g8<40/\z6 m.g9=true:=by
  rcases hm.kd with q|q|q|q|q|q|q
  ·omega
  ·omega
  ·exact ⟨q.2.1,q.2.2.1,q.2.2.2.1⟩
  all_goals exact absurd q.1 (by omega)
 have hs:=hm.sl;obtain ⟨k,hsk⟩:∃k:Nat,m.g8=(k:Int):=⟨m.g8.toNat,by omega⟩
 unfold a4u;cases hp:O3 n.Acc m.a8 m.g8 m.g9 with
 | none=>
  rw [hsk] at hp;have:=e9y hp (by omega) hb.2.2 hb.1;refine ⟨h,rfl,fun x hx => ?_⟩;rw [e92.1 hx];exact a8O hm (.refuse (by have:=h.pr;omega)) (by simp)
 | some a=>
  refine ⟨(h.cast hp).yield m.a8,b1b _ _,fun x hx => ?_⟩;rw [e92.1 hx];exact a8O hm (.one (.inr rfl) hb.1) hs
theorem c4z{n:j8}(h:NI n){m:j9}(hm:MI m)(hk:m.a6=2):R7 n (a4K n m):=by
 have hkd:(m.a0.length<=40/\∀v∈m.a0,VI v)/\m.g8+m.a0.length<=40:=by
  rcases hm.kd with q|q|q|q|q|q|q
  ·omega
  ·exact ⟨q.2.2.2.1,q.2.2.2.2⟩
  all_goals exact absurd q.1 (by omega)
 have hs:=hm.sl;have hf:=hm.fr;unfold a4K;cases hc:n.f0 != 1||m.a8 != n.a8
 ·simp only [f1v,bne_eq_false_iff_eq] at hc;simp only [f1D];have hl:Own n/\n.c9.length=3/\n.c9[n.Id.toNat]?=some true/\n.c8=zE/\n.a0=[]:=by
   rcases h.ld with q|q|q|q
   ·omega
   ·exact q.2
   all_goals exact absurd q.1 (by omega)
  have hbl:=a9b n.i4 (e9R m.g8.toNat v0++m.a0);have hob:=hl.1.bl;have hlen:(e9R m.g8.toNat v0++m.a0).length<=40:=by simp;omega
  have hbs:∀v∈E7 n.i4 (e9R m.g8.toNat v0++m.a0),VI v:=fun v hv=>(b8g hv).elim (fun q=>hl.1.bs v q) (fun q=>(e9S.1 q).elim (fun q=>by rw [(f0s.1 q).2];exact .inl rfl) (hkd.1.2 v))
  cases U3 (n.c9.set m.c9.toNat true)
  ·simp only [f1D];refine ⟨⟨h.id,h.pr,h.vl,h.vs,h.kl,h.ks,h.sq,h.ql,h.qs,.inr (.inl ⟨hc.1,⟨hl.1.b1,hl.1.b2,hl.1.mod,hl.1.pr,by show (E7 _ _).length<=40;omega,hbs⟩,by simp [hl.2.1],?_,hl.2.2.2.1,hl.2.2.2.2⟩),h.wt⟩,rfl,by simp⟩;show (n.c9.set m.c9.toNat true)[n.Id.toNat]?=some true
   by_cases q:m.c9.toNat=n.Id.toNat
   ·rw [q,f0V (by have:=h.id;omega)]
   ·rw [f0c q];exact hl.2.2.1
  ·simp only [f1C];refine R7.to (n:=n) (n':={n with c9:=[],i4:=E7 n.i4 (e9R m.g8.toNat v0++m.a0),f0:=2}) rfl (b1V ?_);exact ⟨h.id,h.pr,h.vl,h.vs,h.kl,h.ks,h.sq,h.ql,h.qs,.inr (.inr (.inl ⟨rfl,⟨hl.1.b1,hl.1.b2,hl.1.mod,hl.1.pr,by show (E7 _ _).length<=40;omega,hbs⟩,rfl,hl.2.2.2.1,hl.2.2.2.2⟩)),h.wt⟩
 ·exact .same h
theorem e0O{n:j8}(h:NI n){m:j9}(hm:MI m):a6c n (a5j n m):=by
 have hf:=hm.fr;unfold a5j;cases hc:n.f0 != 3||(m.a8 != n.a8||m.g8 != (n.a7.length:Int))
 ·simp only [f1v,bne_eq_false_iff_eq] at hc;simp only [f1D];have hl:Own n/\n.c9=[]/\z6 n.c8=true/\n.a0.length=3/\n.a0[n.Id.toNat]?=some true/\n.a7.length<40:=by
   rcases h.ld with q|q|q|q
   ·omega
   ·omega
   ·omega
   ·exact q.2
  have hn:NI {n with a0:=n.a0.set m.c9.toNat true}:=by
   refine ⟨h.id,h.pr,h.vl,h.vs,h.kl,h.ks,h.sq,h.ql,h.qs,.inr (.inr (.inr ⟨hc.1,⟨hl.1.b1,hl.1.b2,hl.1.mod,hl.1.pr,hl.1.bl,hl.1.bs⟩,hl.2.1,hl.2.2.1,by simp [hl.2.2.2.1],?_,hl.2.2.2.2.2⟩)),h.wt⟩;show (n.a0.set m.c9.toNat true)[n.Id.toNat]?=some true
   by_cases q:m.c9.toNat=n.Id.toNat
   ·rw [q,f0V (by have:=h.id;omega)]
   ·rw [f0c q];exact hl.2.2.2.2.1
  cases U3 (n.a0.set m.c9.toNat true)
  ·exact ⟨hn,rfl,by simp,by simp⟩
  ·simp only [f1C];have hr:=c4j hn hl.2.2.1 hl.2.2.2.2.2;refine ⟨hr.ni,hr.id,fun x hx => ?_,hr.ts⟩;rcases e9S.1 hx with q|q
   ·exact a6p h.id (.chosen (by omega) hl.2.2.1) (by simp only;omega) x q
   ·exact hr.ms x q
 ·exact .same h
theorem d6z{n:j8}(h:NI n){m:j9}(hm:MI m)(hk:m.a6=5):a6c n (a43 n m):=by
 have hkd:m.g8<40/\z6 m.g9=true:=by
  rcases hm.kd with q|q|q|q|q|q|q
  ·omega
  ·omega
  ·omega
  ·exact ⟨q.2.2.1,q.2.2.2.1⟩
  all_goals exact absurd q.1 (by omega)
 have hkl:=h.kl;unfold a43;cases h1:decide (m.g8<(n.a7.length:Int))
 ·cases h2:decide (m.g8>(n.a7.length:Int))
  ·simp only [decide_eq_false_iff_not] at h1 h2;exact c4j h hkd.2 (by omega)
  ·refine ⟨h,rfl,fun x hx => ?_,by simp⟩;rw [e92.1 hx];exact a8O hm .need (by simp only;omega)
 ·exact .same h
theorem d67{n:j8}(h:NI n){m:j9}(hm:MI m)(hk:m.a6=7):R7 n (a4J n m):=by
 have hkd:z6 m.g9=true/\m.g9.i8=false:=by
  rcases hm.kd with q|q|q|q|q|q|q
  ·omega
  ·omega
  ·omega
  ·omega
  ·omega
  ·exact ⟨q.2.2.2.1,q.2.2.2.2.1⟩
  ·omega
 unfold a4J;cases hc:n.f0==0||(decide (4<=n.d6.length)||N3 n.a7 m.g9.a5)
 ·simp only [f1D];simp only [f1v,decide_eq_false_iff_not] at hc;refine R7.to (n:=n) (n':={n with d6:=n.d6++[m.g9]}) rfl (b1V (h.queue (by simp;omega) ?_));intro e he;rcases e9S.1 he with q|q
  ·exact h.qs e q
  ·rw [e92.1 q];exact hkd
 ·exact .same h
theorem e7J{n:j8}(h:NI n){m:j9}(hm:MI m):∀x∈a50 n m,MI x:=by
 intro x hx;unfold a50 at hx;obtain ⟨l,hl,hx⟩:=f0G.1 hx;obtain ⟨j,hj,rfl⟩:=f0n.1 hl;have hkl:=h.kl;unfold a1E at hx;cases hg:n.a7[m.g8.toNat+j]? with
 | none=>rw [hg] at hx;cases hx
 | some e=>
  rw [hg] at hx;have hlt:=(e9W.1 hg).1;rw [e92.1 hx];exact a8O hm (.chosen (by omega) (h.ks e (e96 hg))) (by simp only;omega)
theorem b00{n:j8}(h:NI n){m:j9}(hm:MI m):a6c n (a1B n m):=by
 unfold a1B;by_cases k1:m.a6=1
 ·rw [show (m.a6==1)=true by simpa using k1];exact (e3R h hm k1).three
 rw [show (m.a6==1)=false by simpa using k1];by_cases k2:m.a6=2
 ·rw [show (m.a6==2)=true by simpa using k2];exact (c4z h hm k2).three
 rw [show (m.a6==2)=false by simpa using k2];by_cases k3:m.a6=3
 ·rw [show (m.a6==3)=true by simpa using k3];exact (e5o h hm k3).three
 rw [show (m.a6==3)=false by simpa using k3];by_cases k4:m.a6=4
 ·rw [show (m.a6==4)=true by simpa using k4];exact e0O h hm
 rw [show (m.a6==4)=false by simpa using k4];by_cases k5:m.a6=5
 ·rw [show (m.a6==5)=true by simpa using k5];exact d6z h hm k5
 rw [show (m.a6==5)=false by simpa using k5];by_cases k6:m.a6=6
 ·rw [show (m.a6==6)=true by simpa using k6];simp only [f1C,f1D];cases hp:J4 n.Acc m.a8 with
  | none=>exact ⟨h.yield _,b1b _ _,by simp,by simp⟩
  | some a=>exact ⟨(h.promise hp).yield _,b1b _ _,by simp,by simp⟩
 rw [show (m.a6==6)=false by simpa using k6];by_cases k7:m.a6=7
 ·rw [show (m.a6==7)=true by simpa using k7];exact (d67 h hm k7).three
 rw [show (m.a6==7)=false by simpa using k7];cases m.a6==8
 ·exact .same h
 ·exact ⟨h,rfl,e7J h hm,by simp⟩
structure e0z(n x:j8):Prop where
 id:x.Id=n.Id
 known:x.a7=n.a7
 seq:x.Seq=n.Seq
 busy:x.j3=n.j3
 prog:x.i7=n.i7
 want:x.b8=n.b8
theorem c2X(n:j8):e0z n (T0 n).1:=by
 unfold T0;cases n.f0 != 2||decide (40<=n.a7.length)
 ·simp only [f1D];obtain ⟨q,hq,_⟩:=b4O n;cases hx:a09 n with
  | mk x o=>
  rw [hx] at hq;have hq:x={n with d6:=q}:=hq;subst hq;cases o with
  | none=>exact ⟨rfl,rfl,rfl,rfl,rfl,rfl⟩
  | some e=>
   simp only [a9g];cases O3 n.Acc n.a8 (n.a7.length:Int) e<;>exact ⟨rfl,rfl,rfl,rfl,rfl,rfl⟩
 ·exact ⟨rfl,rfl,rfl,rfl,rfl,rfl⟩
def a1z(n:j8):List q9:=(A2 n.a7).1.i0
theorem b8r{n:j8}(h:NI n):F7 (a1z n)=true:=by
 obtain ⟨a,b⟩:=a7N h.list;have:=(a4f a b n.a7.length (f0u _)).1.boxes;rwa [f0r] at this
theorem e8E{n:j8}(h:NI n):b3S n=some (A2 n.a7).1:=by
 unfold b3S;rw [a7w h.ok,e9P,a0l.2 h];simp only [e9V,f1D];rw [d31 (okEntries.f h.ok.2.2.1) h.list];rfl
theorem d4R{l:List q9}{p:List r9}(h:(C5 l p).Code≠3):D6 p=true:=by
 unfold C5 at h;cases hp:D6 p
 ·rw [hp,Bool.and_false] at h;exact absurd rfl h
 ·rfl
def V0(n:j8)(prog:List r9):j8:={n with Seq:=n.Seq+1,j3:=true,i7:=prog,b8:=⟨false,⟨n.Id,n.Seq+1⟩,C5 (a1z n) prog⟩}
def M0(n:j8)(prog:List r9):Bool := !(n.j3||(n.Seq==1000||(C5 (a1z n) prog).Code==3))
theorem b4q{n:j8}{prog:List r9}:M0 n prog=true↔n.j3=false/\n.Seq≠1000/\(C5 (a1z n) prog).Code≠3:=by
 unfold M0;simp
theorem b06{n:j8}(h:NI n){prog:List r9}(hp:u5 prog)(hc:M0 n prog=true):z6 (V0 n prog).b8=true/\D6 prog=true:=by
 obtain ⟨h1,h2,h3⟩:=b4q.1 hc;have hr:=(e8x (b8r h) hp).ok;have hs:=h.sq;have hid:=h.id;refine ⟨?_,d4R h3⟩;unfold z6 V0;simp only [f1D,e9U,H4,hr,true_and,bne_iff_ne,ne_eq];exact ⟨⟨hid,by omega⟩,h3⟩
theorem NI.asked{n:j8}(h:NI n){prog:List r9}(hp:u5 prog)(hc:M0 n prog=true):NI (V0 n prog):=by
 obtain ⟨h1,h2,h3⟩:=b4q.1 hc;obtain ⟨h4,h5⟩:=b06 h hp hc;have hs:=h.sq;exact ⟨h.id,h.pr,h.vl,h.vs,h.kl,h.ks,by show 0<=n.Seq+1/\n.Seq+1<=1000;omega,h.ql,h.qs,h.ld,.inl ⟨rfl,h5,h4,rfl,rfl⟩⟩
theorem a4v(n:j8)(prog:List r9):N4 n prog=bif M0 n prog then (bif n.f0==2 then T0 (V0 n prog) else (V0 n prog,bif n.f0==0 then N5 n.Id ⟨7,0,0,0,0,(V0 n prog).b8,[]⟩ else [])) else (n,[]):=by
 unfold N4 M0 V0 a1z;cases n.j3||(n.Seq==1000||(C5 (A2 n.a7).1.i0 prog).Code==3)<;>rfl
theorem d3p{n:j8}(h:NI n){prog:List r9}(hp:A0 32 okT prog):b3H n prog=some ((N4 n prog).1,(N4 n prog).2,[]):=by
 have hf:u5 prog:=hp.fits (by decide);have hs:=h.sq;unfold b3H;rw [a7w h.ok,e9P,a0l.2 h,a8A h.ok,e8E h,a4v];simp only [e9V,f1D,e9P];rw [show (A2 n.a7).1.i0=a1z n from rfl,e3s (a8X (b8r h)) hf,e9P];cases hb:n.j3
 ·cases hq:n.Seq==1000
  ·cases hc:(C5 (a1z n) prog).Code==3
   ·have hca:M0 n prog=true:=by unfold M0;rw [hb,hq,hc];rfl
    have hn:=h.asked hf hca;rw [hca];simp only [f1C,f1D];rw [t6 (by have:=hp.1;simp;omega),B9 (by omega) (by omega)];cases h2:n.f0==2
    ·cases h0:n.f0==0
     ·rfl
     ·simp only [f1D,f1C];rw [a4V h.id (show F9 ⟨7,0,0,0,0,⟨false,⟨n.Id,n.Seq+1⟩,C5 (a1z n) prog⟩,[]⟩ from a8p (w9 (by omega)) a0e a0e (a2j (b06 h hf hca).1) O0)];rfl
    ·simp only [f1C];rw [show (⟨n.Id,n.Acc,n.a7,n.Seq+1,n.f0,n.a8,n.c9,n.i4,n.c8,n.a0,true,[]++prog,⟨false,⟨n.Id,n.Seq+1⟩,C5 (a1z n) prog⟩,n.d6⟩:j8)=V0 n prog from rfl,b1o hn.ok hn.id,e9P]
   ·have hca:M0 n prog=false:=by unfold M0;rw [hb,hq,hc];rfl
    rw [hca];rfl
  ·have hca:M0 n prog=false:=by unfold M0;rw [hb,hq];rfl
   rw [hca];rfl
 ·have hca:M0 n prog=false:=by unfold M0;rw [hb];rfl
  rw [hca];rfl
theorem b1S{n:j8}(h:NI n){prog:List r9}(hp:u5 prog):R7 n (N4 n prog):=by
 rw [a4v];cases hc:M0 n prog
 ·exact .same h
 ·have hn:=h.asked hp hc;simp only [f1C];cases n.f0==2
  ·refine ⟨hn,rfl,fun x hx => ?_⟩;simp only [f1D] at hx;cases h0:n.f0==0
   ·rw [h0] at hx;cases hx
   ·rw [h0] at hx;exact a6p h.id (.ask (b06 h hp hc).1 rfl) (by simp) x hx
  ·exact R7.to (n:=n) (n':=V0 n prog) rfl (b1V hn)
theorem c1T{b who:Int}(hb:0<=b/\b<=3000)(hw:0<=who/\who<=2):M3 b who=-1\/(b<M3 b who/\M3 b who<=b+3/\M3 b who<=3000/\e9Z (M3 b who) 3=who):=by
 unfold M3;cases h1:decide (b+1<=3000)&&(e9Z (b+1) 3==who)
 ·cases h2:decide (b+2<=3000)&&(e9Z (b+2) 3==who)
  ·cases h3:decide (b+3<=3000)&&(e9Z (b+3) 3==who)
   ·exact .inl rfl
   ·simp only [e9U,decide_eq_true_eq,beq_iff_eq] at h3;exact .inr ⟨by simp only [f1C,f1D];omega,by simp only [f1C,f1D];omega,h3.1,h3.2⟩
  ·simp only [e9U,decide_eq_true_eq,beq_iff_eq] at h2;exact .inr ⟨by simp only [f1C,f1D];omega,by simp only [f1C,f1D];omega,h2.1,h2.2⟩
 ·simp only [e9U,decide_eq_true_eq,beq_iff_eq] at h1;exact .inr ⟨by simp only [f1C,f1D];omega,by simp only [f1C,f1D];omega,h1.1,h1.2⟩
theorem c5d{n:j8}(h:NI n):a9I n=some (a1T n):=by
 unfold a9I a1T;rw [a7w h.ok,e9P,a0l.2 h,a8A h.ok];simp only [e9V,f1D,e9P];rw [e2X h.pr h.id,e9P];cases hd:decide (M3 n.Acc.i5 n.Id<0)
 ·simp only [decide_eq_false_iff_not] at hd;rcases c1T h.pr h.id with q|⟨q1,q2,q3,q4⟩
  ·omega
  ·have hpr:=h.pr;have hkl:=h.kl;obtain ⟨y,hy⟩:=c10 h.id;simp only [f1D,b3c,e9P,b3I,b5N (a:=n.Acc) (show 1<=M3 n.Acc.i5 n.Id by omega) q3 (by omega),hy,d70 h.ok.2.1.2];rw [t6 (by omega),t6 trivial,a4V h.id (a8p (w9 (by omega)) (w9 (by omega)) (w9 (by omega)) V1 O0)];rfl
 ·rfl
theorem b0N{n:j8}(h:NI n):R7 n (a1T n):=by
 unfold a1T;cases hd:decide (M3 n.Acc.i5 n.Id<0)
 ·simp only [decide_eq_false_iff_not] at hd;have hpr:=h.pr;have hkl:=h.kl;rcases c1T h.pr h.id with q|⟨q1,q2,q3,q4⟩
  ·omega
  ·obtain ⟨m1,m2⟩:=b83 h.id;refine ⟨⟨h.id,⟨by simp only [f1D];omega,q3⟩,h.vl,fun v hv=>⟨(h.vs v hv).1,Int.le_trans (h.vs v hv).2 (Int.le_of_lt q1)⟩,h.kl,h.ks,h.sq,h.ql,h.qs,.inr (.inl ⟨rfl,⟨by simp only [f1D];omega,q3,q4,Int.le_refl _,h.vl,fun v hv=>(h.vs v hv).1⟩,m1,m2,rfl,rfl⟩),h.wt⟩,rfl,?_⟩;exact a6p h.id (.one (.inl rfl) ⟨by omega,q3⟩) (by simp only;omega)
 ·exact .same h
theorem c6m{k b s:Int}(hk:0<=k/\k<=8)(hb:0<=b/\b<=3000)(hs:0<=s/\s<=40):F9 ⟨k,0,0,b,s,zE,[]⟩:=a8p (w9 (by omega)) (w9 (by omega)) (w9 (by omega)) V1 O0
theorem e3O{n:j8}(h:NI n):b08 n=some ((a0W n).1,(a0W n).2,[]):=by
 have hkl:=h.kl;have hb:=h.ld.bal;have l1:=a0g n.Id ⟨8,0,0,0,(n.a7.length:Int),zE,[]⟩;unfold b08 a0W;rw [a7w h.ok,e9P,a0l.2 h,a8A h.ok];simp only [e9V,f1D,e9P];rw [a4V h.id (c6m (by omega) (by omega) (by omega)),e9P];cases h1:n.f0==1
 ·cases h2:n.f0==2
  ·cases h3:n.f0==3
   ·cases hbz:n.j3
    ·rfl
    ·simp only [f1C,f1D];have l2:=a0g n.Id ⟨7,0,0,0,0,n.b8,[]⟩;have hw:E1 n.b8:=h.ok.2.2.2.2.2.2.2.2.2.2.2.1;rw [a4V h.id (a8p (w9 (by omega)) a0e a0e hw O0),e9P,t6 (by omega)];rfl
   ·simp only [f1C,f1D];have l2:=a0g n.Id ⟨3,0,0,n.a8,(n.a7.length:Int),n.c8,[]⟩;rw [a4V h.id (a8p (w9 (by omega)) (w9 (by omega)) (w9 (by omega)) h.ld.from3.2.2 O0),e9P,t6 (by omega)];rfl
  ·simp only [f1C,f1D];have l2:=a6M n;rw [b1o h.ok h.id,e9P,t6 (by omega)];rfl
 ·simp only [f1C,f1D];have l2:=a0g n.Id ⟨1,0,0,n.a8,(n.a7.length:Int),zE,[]⟩;rw [a4V h.id (c6m (by omega) (by omega) (by omega)),e9P,t6 (by omega)];rfl
theorem b7S{n:j8}(h:NI n):R7 n (a0W n):=by
 have hkl:=h.kl;have hb:=h.ld.bal;have a1:∀x∈N5 n.Id ⟨8,0,0,0,(n.a7.length:Int),zE,[]⟩,MI x:=a6p h.id .need (by simp only;omega)
 have U3:∀{l:List j9},(∀x∈l,MI x)->∀x∈N5 n.Id ⟨8,0,0,0,(n.a7.length:Int),zE,[]⟩++l,MI x:=by
  intro l hl x hx;rcases e9S.1 hx with q|q
  ·exact a1 x q
  ·exact hl x q
 unfold a0W;by_cases h1:n.f0=1
 ·rw [show (n.f0==1)=true by simpa using h1];refine ⟨h,rfl,U3 (a6p h.id (.one (.inl rfl) ?_) (by simp only;omega))⟩;rcases h.ld with q|q|q|q
  ·omega
  ·exact ⟨q.2.1.b1,q.2.1.b2⟩
  all_goals exact absurd q.1 (by omega)
 rw [show (n.f0==1)=false by simpa using h1];by_cases h2:n.f0=2
 ·rw [show (n.f0==2)=true by simpa using h2];have:=b1V h;exact ⟨this.ni,this.id,U3 this.ms⟩
 rw [show (n.f0==2)=false by simpa using h2];by_cases h3:n.f0=3
 ·rw [show (n.f0==3)=true by simpa using h3];rcases h.ld with q|q|q|q
  ·omega
  ·omega
  ·omega
  ·exact ⟨h,rfl,U3 (a6p h.id (.accept ⟨q.2.1.b1,q.2.1.b2⟩ (by omega) q.2.2.2.1) (by simp only;omega))⟩
 rw [show (n.f0==3)=false by simpa using h3];cases hbz:n.j3
 ·exact ⟨h,rfl,a1⟩
 ·rcases h.wt with q|q
  ·exact ⟨h,rfl,U3 (a6p h.id (.ask q.2.2.1 q.2.2.2.1) (by simp))⟩
  ·rw [hbz] at q;cases q.1
theorem e8X{n:j8}(h:NI n):b0p n=some (a4G n):=by
 unfold b0p;rw [a7w h.ok,e9P,a0l.2 h,a8A h.ok];rfl
theorem NI.open{id:Int}(h:0<=id/\id<=2):NI (H5 id):=
 ⟨h,⟨by simp [H5],by simp [H5]⟩,by simp [H5],by simp [H5],by simp [H5],by simp [H5],⟨by simp [H5],by simp [H5]⟩,by simp [H5],by simp [H5],.inl ⟨rfl,rfl,rfl,rfl,rfl,rfl⟩,.inr ⟨rfl,rfl,rfl⟩⟩
theorem NI.fall{n:j8}(h:NI n):NI (a4G n):=
 ⟨h.id,h.pr,h.vl,h.vs,h.kl,h.ks,h.sq,by simp [a4G,H5],by simp [a4G,H5],.inl ⟨rfl,rfl,rfl,rfl,rfl,rfl⟩,.inr ⟨rfl,rfl,rfl⟩⟩
theorem c5K{l:List j9}(hl:u5 l)(ho:∀m∈l,F9 m):∀(d k:Nat) (net:List j9),l.length-k=d->s2 (fun s:(List j9)×Int=>a2w l s.1 s.2) (net,(k:Int))=some (.brk (net++(l.drop k).take (40-net.length)))
 | 0,k,net,hd=>by
  rw [e97 (by omega)];refine (D7 (b:=net) ?_).trans (by simp);show a2w l net (k:Int)=_
  unfold a2w;rw [show decide ((k:Int)<(l.length:Int))=false by simp;omega];rfl
 | d+1,k,net,hd=>by
  have hlt:k<l.length:=by omega
  by_cases hn:net.length<40
  ·have hb:a2w l net (k:Int)=some (.nxt (net++[l[k]],((k+1:Nat):Int))):=by
    unfold a2w;rw [z0 _ k hlt,show decide ((net.length:Int)<40)=true by simp;omega,f1C,f1C,u6 hlt,e9P,b6L (ho _ (e9T hlt)),e9P,t6 (by omega),G1 hl hlt]
   rw [F4 (body:=fun s:(List j9)×Int=>a2w l s.1 s.2) (s:=(net,(k:Int))) hb,c5K hl ho d (k+1) _ (by omega),f0e hlt];rw [show 40-net.length=(40-(net++[l[k]]).length)+1 by simp;omega,f1e,e95];rfl
  ·refine (D7 (b:=net) ?_).trans (by rw [show 40-net.length=0 by omega];simp);show a2w l net (k:Int)=_
   unfold a2w;rw [z0 _ k hlt,show decide ((net.length:Int)<40)=false by simp;omega];rfl
theorem a42(w:m8){l:List j9}(hl:u5 l)(ho:∀m∈l,F9 m):a0o w l=some (a1l w l):=by
 unfold a0o;rw [show s2 (fun s:(List j9)×Int=>a2w l s.1 s.2) (w.d8,0)=_ from c5K hl ho l.length 0 w.d8 rfl];rfl
theorem d0z{l:List o8}(hl:u5 l):∀(d k:Nat) (o:List o8),l.length-k=d->s2 (fun s:(List o8)×Int=>a2y l s.1 s.2) (o,(k:Int))=some (.brk (o++(l.drop k).take (60-o.length)))
 | 0,k,o,hd=>by
  rw [e97 (by omega)];refine (D7 (b:=o) ?_).trans (by simp);show a2y l o (k:Int)=_
  unfold a2y;rw [show decide ((k:Int)<(l.length:Int))=false by simp;omega];rfl
 | d+1,k,o,hd=>by
  have hlt:k<l.length:=by omega
  by_cases hn:o.length<60
  ·have hb:a2y l o (k:Int)=some (.nxt (o++[l[k]],((k+1:Nat):Int))):=by
    unfold a2y;rw [z0 _ k hlt,show decide ((o.length:Int)<60)=true by simp;omega,f1C,f1C,u6 hlt,e9P,t6 (by omega),G1 hl hlt]
   rw [F4 (body:=fun s:(List o8)×Int=>a2y l s.1 s.2) (s:=(o,(k:Int))) hb,d0z hl d (k+1) _ (by omega),f0e hlt];rw [show 60-o.length=(60-(o++[l[k]]).length)+1 by simp;omega,f1e,e95];rfl
  ·refine (D7 (b:=o) ?_).trans (by rw [show 60-o.length=0 by omega];simp);show a2y l o (k:Int)=_
   unfold a2y;rw [z0 _ k hlt,show decide ((o.length:Int)<60)=false by simp;omega];rfl
theorem a8a(w:m8){l:List o8}(hl:u5 l):a0F w l=some (a6N w l):=by
 unfold a0F;rw [show s2 (fun s:(List o8)×Int=>a2y l s.1 s.2) (w.Told,0)=_ from d0z hl l.length 0 w.Told rfl];rfl
theorem a2u(w:m8):a6N w []=w:=by
 unfold a6N;simp
theorem c2f(w:m8):a1l w []=w:=by
 unfold a1l;simp
theorem e00{w:m8}{k:Nat}(hk:k<w.d8.length)(hl:w.d8.length<=40):b1U w (k:Int)=some (a8v w (k:Int)):=by
 unfold b1U a8v;rw [t6 (by omega),t6 (by simp;omega),B9 (by omega) (by omega),t6 (by omega),t6 (by simp;omega)];simp only [f0I,f04,f0S,Nat.sub_zero,f0k,f0A,show ((k:Int)+1).toNat=k+1 by omega];rw [f0q (l:=w.d8.drop (k+1)) (by simp)]
theorem a3P{w:m8}(h:WI w){i:Nat}(hi:i<3):∃n,w.b7[i]?=some n/\P9 w (i:Int)=n/\n.Id=(i:Int)/\NI n/\i<w.b7.length:=by
 have hl:=h.nl;have hg:=e9Q (l:=w.b7) (i:=i) (by omega);obtain ⟨h1,h2⟩:=h.ns i _ hg;refine ⟨_,hg,?_,h1,h2,by omega⟩;unfold P9;rw [f0k,f0j,hg];rfl
theorem WI.put{w:m8}(h:WI w){i:Nat}{n:j8}(hid:n.Id=(i:Int))(hn:NI n):WI (Z7 w (i:Int) n):=by
 refine ⟨by simp [Z7,h.nl],?_,h.ml,h.ms,h.al,h.aq,h.tl,h.ts⟩;intro j m hm;simp only [Z7,f0k] at hm;by_cases q:i=j
 ·subst q;have hlt:=(e9W.1 hm).1;rw [f0B] at hlt;rw [f0V hlt] at hm;injection hm with hm;subst hm;exact ⟨hid,hn⟩
 ·rw [f0c q] at hm;exact h.ns j m hm
theorem WI.send{w:m8}(h:WI w){l:List j9}(hl:∀m∈l,MI m):WI (a1l w l):=by
 have:=h.ml;refine ⟨h.nl,h.ns,by simp only [a1l,e94,f0i];omega,?_,h.al,h.aq,h.tl,h.ts⟩;intro m hm;rcases e9S.1 hm with q|q
 ·exact h.ms m q
 ·exact hl m (f0D q)
theorem WI.tell{w:m8}(h:WI w){l:List o8}(hl:∀t∈l,R6 t=true):WI (a6N w l):=by
 have:=h.tl;refine ⟨h.nl,h.ns,h.ml,h.ms,h.al,h.aq,by simp only [a6N,e94,f0i];omega,?_⟩;intro m hm;rcases e9S.1 hm with q|q
 ·exact h.ts m q
 ·exact hl m (f0D q)
theorem WI.off{w:m8}(h:WI w)(i:Int):WI (a8v w i):=by
 have:=h.ml;refine ⟨h.nl,h.ns,by simp only [a8v,e94,f0i,List.length_drop];omega,?_,h.al,h.aq,h.tl,h.ts⟩;intro m hm;rcases e9S.1 hm with q|q
 ·exact h.ms m (f0D q)
 ·exact h.ms m (f0J q)
theorem a92{l:List j9}(h:l.length<=100):u5 l:=by unfold u5;omega
theorem c1n(n:j8)(p:List r9):(N4 n p).2.length<=3:=by
 rw [a4v];cases M0 n p
 ·simp
 ·cases n.f0==2
  ·cases n.f0==0
   ·simp
   ·exact a0g _ _
  ·exact a6M _
theorem MI.okl{l:List j9}(h:∀m∈l,MI m):∀m∈l,F9 m:=fun m hm=>(h m hm).ok
theorem d3b(n:j8)(p:List r9):decide ((N4 n p).1.Seq>n.Seq)=M0 n p:=by
 rw [a4v];cases M0 n p
 ·simp
 ·simp only [f1C];cases n.f0==2
  ·simp [V0];omega
  ·have:=(c2X (V0 n p)).seq;simp only [f1C,this];simp [V0];omega
theorem c0m{n:j8}{p:List r9}(h:M0 n p=true):(N4 n p).1.b8=(V0 n p).b8:=by
 rw [a4v,h];simp only [f1C];cases n.f0==2
 ·rfl
 ·exact (c2X (V0 n p)).want
def e6U(w:m8)(a:C1):m8:={w with g7:=w.g7++[a]}
theorem WI.addAsked{w:m8}(h:WI w){a:C1}(hl:w.g7.length<60)(ha:Y8 a=true):WI (e6U w a):=by
 refine ⟨h.nl,h.ns,h.ml,h.ms,by simp only [e6U,e94,f0O];omega,?_,h.tl,h.ts⟩;intro x hx;rcases e9S.1 hx with q|q
 ·exact h.aq x q
 ·rw [e92.1 q];exact ha
theorem e1e{w:m8}(h:WI w){i:Nat}(hi:i<3){p:List r9}(hp:A0 32 okT p):b2M w (i:Int) p=some (a5F w (i:Int) p)/\WI (a5F w (i:Int) p):=by
 obtain ⟨n,hg,hn,hid,hni,hlt⟩:=a3P h hi;have hf:u5 p:=hp.fits (by decide);have hr:=b1S hni hf;have hln:=c1n n p;have hms:=MI.okl hr.ms;have hal:=h.al;unfold b2M a5F;rw [hn,show decide ((w.g7.length:Int)>=60)=decide (60<=w.g7.length) by simp;omega,a6W,hg,e9P,d3p hni hp,e9P];cases hd:decide (60<=w.g7.length)
 ·simp only [f1D];simp only [decide_eq_false_iff_not] at hd;rw [d3b];cases hc:M0 n p
  ·simp only [f1D];rw [a42 _ (a92 (by omega)) hms,e9P,a8a _ (by simp [u5]),a2u];exact ⟨rfl,(h.put (hr.id.trans hid) hr.ni).send hr.ms⟩
  ·simp only [f1C];rw [t6 (by have:=hp.1;simp;omega),t6 (by omega),a42 _ (a92 (by omega)) hms,e9P,a8a _ (by simp [u5]),a2u];refine ⟨rfl,WI.send (w:=Z7 (e6U w ⟨(N4 n p).1.b8.a5,p⟩) (i:Int) (N4 n p).1) (WI.put (w:=e6U w ⟨(N4 n p).1.b8.a5,p⟩) (h.addAsked (by omega) ?_) (hr.id.trans hid) hr.ni) hr.ms⟩;rw [c0m hc];obtain ⟨w1,w2⟩:=b06 hni hf hc;obtain ⟨c1,c2,c3⟩:=b4q.1 hc;unfold Y8;have:=hni.id;have:=hni.sq;simp only [e9U,H4,w2,and_true];show (0<=n.Id/\n.Id<=2)/\1<=n.Seq+1/\n.Seq+1<=1000
   omega
 ·exact ⟨rfl,h⟩
theorem c3n{n:j8}(h:NI n)(m:j9):(a1B n m).2.1.length<=60/\(a1B n m).2.2.length<=1:=by
 have hkl:=h.kl;have al:∀n:j8,(W4 n).2.length<=1:=fun n=>by
  rcases b4K n with q|⟨k,_,_,q⟩<;>rw [q]<;>simp
 have ll:∀(n:j8) (e:m5),(a02 n e).2.1.length<=3/\(a02 n e).2.2.length<=1:=fun n e=>⟨a6M _,al _⟩
 have nl:(a50 n m).length<=40:=by
  unfold a50;have:∀d k:Nat,((e91 d).map fun j=>a1E n m (k+j)).flatten.length<=d:=by
   intro d k;rw [List.length_flatten,f1o];have hs:∀(l:List Nat),((l.map (List.length ∘ fun j=>a1E n m (k+j))).sum)<=l.length:=by
    intro l;induction l with
    | nil=>simp
    | cons x l ih=>
     simp only [f0m,List.sum_cons,f0F,Function.comp];have:(a1E n m (k+x)).length<=1:=by
      unfold a1E;cases n.a7[k+x]?<;>simp
     omega
   have:=hs (e91 d);rwa [List.length_range] at this
  have:=this (n.a7.length-m.g8.toNat) m.g8.toNat;omega
 unfold a1B;cases m.a6==1
 ·cases m.a6==2
  ·cases m.a6==3
   ·cases m.a6==4
    ·cases m.a6==5
     ·cases m.a6==6
      ·cases m.a6==7
       ·cases m.a6==8
        ·exact ⟨by simp,by simp⟩
        ·exact ⟨by simp only [f1C,f1D];omega,by simp⟩
       ·refine ⟨?_,by simp⟩;simp only [f1C,f1D,a4J];cases n.f0==0||(decide (4<=n.d6.length)||N3 n.a7 m.g9.a5)
        ·exact f0f (a6M _) (by omega)
        ·simp
      ·exact ⟨by simp,by simp⟩
     ·simp only [f1C,f1D,a43];cases decide (m.g8<(n.a7.length:Int))
      ·cases decide (m.g8>(n.a7.length:Int))
       ·have:=ll n m.g9;exact ⟨by simp only [f1D];omega,by simp only [f1D];omega⟩
       ·exact ⟨by simp,by simp⟩
      ·exact ⟨by simp,by simp⟩
    ·simp only [f1C,f1D,a5j];cases n.f0 != 3||(m.a8 != n.a8||m.g8 != (n.a7.length:Int))
     ·cases U3 (n.a0.set m.c9.toNat true)
      ·exact ⟨by simp,by simp⟩
      ·have h1:=ll {n with a0:=n.a0.set m.c9.toNat true} n.c8;have h2:=a0g n.Id ⟨5,0,0,0,(n.a7.length:Int),n.c8,[]⟩;exact ⟨by simp only [f1C,f1D,e94];omega,by simp only [f1C,f1D];omega⟩
     ·exact ⟨by simp,by simp⟩
   ·refine ⟨?_,by simp⟩;simp only [f1C,f1D,a4u];cases O3 n.Acc m.a8 m.g8 m.g9<;>simp
  ·refine ⟨?_,by simp⟩;simp only [f1C,f1D,a4K];cases n.f0 != 1||m.a8 != n.a8
   ·cases U3 (n.c9.set m.c9.toNat true)
    ·simp
    ·exact f0f (a6M _) (by omega)
   ·simp
 ·refine ⟨?_,by simp⟩;simp only [f1C,a4N];cases J4 n.Acc m.a8<;>simp
theorem e4a{w:m8}(h:WI w)(e:v5):a4q w e=some (a04 w e)/\WI (a04 w e):=by
 have hml:=h.ml;unfold a4q a04;by_cases h0:e.A<0
 ·rw [show decide (e.A<0)=true by simpa using h0,show decide (0<=e.A)=false by simp;omega];exact ⟨rfl,h⟩
 ·obtain ⟨k,hk⟩:∃k:Nat,e.A=(k:Int):=⟨e.A.toNat,by omega⟩
  rw [hk,show decide ((k:Int)<0)=false by simp,show decide (0<=(k:Int))=true by simp,f0k];simp only [f1C,f1D];by_cases hl:k<w.d8.length
  ·rw [show decide ((k:Int)>=(w.d8.length:Int))=false by simp;omega,u6 hl,e9Q hl];have hm:=h.ms _ (e9T hl);generalize w.d8[k]=m at hm;simp only [f1D,e9P,b6L hm.ok];cases e.a6==4
   ·simp only [f1D];rw [e00 hl hml];cases e.a6==3
    ·simp only [f1D,e9P];have ho:=h.off (k:Int);have ht:=hm.to;obtain ⟨t,htt⟩:∃t:Nat,m.To=(t:Int):=⟨m.To.toNat,by omega⟩
     obtain ⟨n,hg,hn,hid,hni,hlt⟩:=a3P ho (i:=t) (by omega);have hn':P9 w (t:Int)=n:=hn;have hr:=b00 hni hm;obtain ⟨l1,l2⟩:=c3n hni m;rw [htt,a6W,hg,e9P,d3F hni hm,e9P,hn'];rw [a42 _ (a92 (by omega)) (MI.okl hr.ms),e9P,a8a _ (by unfold u5;omega)];exact ⟨rfl,((ho.put (hr.id.trans hid) hr.ni).send hr.ms).tell hr.ts⟩
    ·exact ⟨rfl,h.off _⟩
   ·simp only [f1C];have hs:∀x∈[m],MI x:=fun x hx=>by rw [e92.1 hx];exact hm
    rw [a42 _ (a92 (by simp)) (MI.okl hs)];exact ⟨rfl,h.send hs⟩
  ·rw [show decide ((k:Int)>=(w.d8.length:Int))=true by simp;omega,f0l (by omega)];exact ⟨rfl,h⟩
def O5(e:v5):Prop:=A0 32 okT e.i7
theorem c2l(n:j8):(a0W n).2.length<=6:=by
 have l0:=a0g n.Id ⟨8,0,0,0,(n.a7.length:Int),zE,[]⟩;unfold a0W;cases n.f0==1
 ·cases n.f0==2
  ·cases n.f0==3
   ·cases n.j3
    ·simp only [f1D];omega
    ·have:=a0g n.Id ⟨7,0,0,0,0,n.b8,[]⟩;simp only [f1C,f1D,e94];omega
   ·have:=a0g n.Id ⟨3,0,0,n.a8,(n.a7.length:Int),n.c8,[]⟩;simp only [f1C,f1D,e94];omega
  ·have:=a6M n;simp only [f1C,f1D,e94];omega
 ·have:=a0g n.Id ⟨1,0,0,n.a8,(n.a7.length:Int),zE,[]⟩;simp only [f1C,e94];omega
theorem b9l(n:j8):(a1T n).2.length<=3:=by
 unfold a1T;cases decide (M3 n.Acc.i5 n.Id<0)
 ·exact a0g _ _
 ·simp
theorem c0R{w:m8}{i:Nat}{n:j8}(h:w.b7[i]?=some n):Z7 w (i:Int) n=w:=by
 unfold Z7;rw [f0k];obtain ⟨hi,rfl⟩:=e9W.1 h;rw [List.set_getElem_self]
theorem d5Q{w:m8}(h:WI w){i:Nat}(hi:i<3){p:List r9}(hp:A0 32 okT p):WI (a5F w (i:Int) p):=by
 obtain ⟨n,hg,hn,hid,hni,hlt⟩:=a3P h hi;have hf:u5 p:=hp.fits (by decide);have hr:=b1S hni hf;unfold a5F;rw [hn];cases hd:decide (60<=w.g7.length)
 ·simp only [f1D];simp only [decide_eq_false_iff_not] at hd;rw [d3b];cases hc:M0 n p
  ·simp only [f1D];exact (h.put (hr.id.trans hid) hr.ni).send hr.ms
  ·simp only [f1C];refine WI.send (w:=Z7 (e6U w ⟨(N4 n p).1.b8.a5,p⟩) (i:Int) (N4 n p).1) (WI.put (w:=e6U w ⟨(N4 n p).1.b8.a5,p⟩) (h.addAsked (by omega) ?_) (hr.id.trans hid) hr.ni) hr.ms;rw [c0m hc];obtain ⟨w1,w2⟩:=b06 hni hf hc;obtain ⟨c1,c2,c3⟩:=b4q.1 hc;unfold Y8;have:=hni.id;have:=hni.sq;simp only [e9U,H4,w2,and_true];show (0<=n.Id/\n.Id<=2)/\1<=n.Seq+1/\n.Seq+1<=1000
   omega
 ·exact h
theorem e0Y{w:m8}(h:WI w)(e:v5):WI (a04 w e):=by
 unfold a04;by_cases h0:e.A<0
 ·rw [show decide (0<=e.A)=false by simp;omega];exact h
 ·obtain ⟨k,hk⟩:∃k:Nat,e.A=(k:Int):=⟨e.A.toNat,by omega⟩
  rw [hk,show decide (0<=(k:Int))=true by simp,f0k];simp only [f1C];by_cases hl:k<w.d8.length
  ·rw [e9Q hl];have hm:=h.ms _ (e9T hl);generalize w.d8[k]=m at hm;simp only;cases e.a6==4
   ·simp only [f1D];cases e.a6==3
    ·simp only [f1D];have ho:=h.off (k:Int);have ht:=hm.to;obtain ⟨t,htt⟩:∃t:Nat,m.To=(t:Int):=⟨m.To.toNat,by omega⟩
     obtain ⟨n,hg,hn,hid,hni,hlt⟩:=a3P ho (i:=t) (by omega);have hn':P9 w (t:Int)=n:=hn;have hr:=b00 hni hm;rw [htt,hn'];exact ((ho.put (hr.id.trans hid) hr.ni).send hr.ms).tell hr.ts
    ·exact h.off _
   ·simp only [f1C];have hs:∀x∈[m],MI x:=fun x hx=>by rw [e92.1 hx];exact hm
    exact h.send hs
  ·rw [f0l (by omega)];exact h
theorem d0S{w:m8}(h:WI w){e:v5}(he:A0 32 okT e.i7):WI (L7 w e):=by
 have n2:=e0Y h e;unfold L7;cases e.a6==2||(e.a6==3||e.a6==4)
 ·simp only [f1D];cases hA:q8 e.A 0 2
  ·exact h
  rw [H4] at hA;obtain ⟨i,hi⟩:∃i:Nat,e.A=(i:Int):=⟨e.A.toNat,by omega⟩
  obtain ⟨n,hg,hn,hid,hni,hlt⟩:=a3P h (i:=i) (by omega);rw [hi,hn];simp only [e9V,f1D];cases e.a6==1
  ·cases e.a6==5
   ·cases e.a6==6
    ·cases e.a6==7
     ·exact h
     ·exact h.put hid hni.fall
    ·have hr:=b7S hni;exact (h.put (hr.id.trans hid) hr.ni).send hr.ms
   ·have hr:=b0N hni;exact (h.put (hr.id.trans hid) hr.ni).send hr.ms
  ·exact d5Q h (by omega) he
 ·exact n2
theorem b6x{w:m8}(h:WI w){e:v5}(he:O5 e):a7h w e=some (L7 w e)/\WI (L7 w e):=by
 obtain ⟨n1,n2⟩:=e4a h e;unfold a7h L7;rw [n1];cases e.a6==2
 ·cases e.a6==3
  ·cases e.a6==4
   ·simp only [f1D,Bool.or_self];by_cases h0:e.A<0
    ·rw [show decide (e.A<0)=true by simpa using h0,show q8 e.A 0 2=false by unfold q8;simp;omega];exact ⟨rfl,h⟩
    ·by_cases h3:e.A>=3
     ·rw [show decide (e.A<0)=false by simpa using h0,show decide (e.A>=3)=true by simpa using h3,show q8 e.A 0 2=false by unfold q8;simp;omega];exact ⟨rfl,h⟩
     ·obtain ⟨i,hi⟩:∃i:Nat,e.A=(i:Int):=⟨e.A.toNat,by omega⟩
      rw [show decide (e.A<0)=false by simpa using h0,show decide (e.A>=3)=false by simpa using h3,show q8 e.A 0 2=true by unfold q8;simp;omega,hi];simp only [f1D,e9V];obtain ⟨n,hg,hn,hid,hni,hlt⟩:=a3P h (i:=i) (by omega);rw [a6W,hg,e9P,hn];cases e.a6==1
      ·simp only [f1D];cases e.a6==5
       ·simp only [f1D];cases e.a6==6
        ·simp only [f1D];cases e.a6==7
         ·simp only [f1D];rw [a42 _ (by simp [u5]) (by simp),e9P,a8a _ (by simp [u5]),a2u,c2f];exact ⟨congrArg some (c0R hg),h⟩
         ·simp only [f1C];rw [e8X hni,e9P,a42 _ (by simp [u5]) (by simp),e9P,a8a _ (by simp [u5]),a2u,c2f];exact ⟨rfl,h.put hid hni.fall⟩
        ·simp only [f1C];have hr:=b7S hni;have hl:=c2l n;rw [e3O hni,e9P,a42 _ (a92 (by omega)) (MI.okl hr.ms),e9P,a8a _ (by simp [u5]),a2u];exact ⟨rfl,(h.put (hr.id.trans hid) hr.ni).send hr.ms⟩
       ·simp only [f1C];have hr:=b0N hni;have hl:=b9l n;rw [c5d hni,e9P,a42 _ (a92 (by omega)) (MI.okl hr.ms),e9P,a8a _ (by simp [u5]),a2u];exact ⟨rfl,(h.put (hr.id.trans hid) hr.ni).send hr.ms⟩
      ·simp only [f1C];obtain ⟨a1,a2⟩:=e1e h (i:=i) (by omega) he;unfold c2z;rw [hi,show (⟨w.b7.set (i:Int).toNat n,w.d8,w.g7,w.Told⟩:m8)=w from c0R hg,a1];exact ⟨rfl,a2⟩
   ·exact ⟨rfl,n2⟩
  ·exact ⟨rfl,n2⟩
 ·exact ⟨rfl,n2⟩
theorem WI.open:WI a1a:=by
 refine ⟨rfl,?_,by simp [a1a],by simp [a1a],by simp [a1a],by simp [a1a],by simp [a1a],by simp [a1a]⟩;intro i n hn;match i,hn with
 | 0,hn=>injection hn with hn;subst hn;exact ⟨rfl,.open (by omega)⟩
 | 1,hn=>injection hn with hn;subst hn;exact ⟨rfl,.open (by omega)⟩
 | 2,hn=>injection hn with hn;subst hn;exact ⟨rfl,.open (by omega)⟩
 | i+3,hn=>simp [a1a] at hn
theorem e0F:b7i=some a1a:=by
 have e:∀(ns:List j8) (i:Nat),i<3->ns.length<=3->a3l ns (i:Int)=some (.nxt (ns++[H5 (i:Int)],((i+1:Nat):Int))):=by
  intro ns i hi hn;unfold a3l a9X;rw [show decide ((i:Int)<3)=true by simp;omega,show decide ((i:Int)<0)=false by simp,show decide ((i:Int)>=3)=false by simp;omega];simp only [f1C,f1D,e9P];rw [t6 (by omega),B9 (by omega) (by omega)];rfl
 have h0:=F4 (body:=fun s:(List j8)×Int=>a3l s.1 s.2) (s:=([],((0:Nat):Int))) (e [] 0 (by omega) (by simp));have h1:=F4 (body:=fun s:(List j8)×Int=>a3l s.1 s.2) (s:=([H5 0],((1:Nat):Int))) (e [H5 0] 1 (by omega) (by simp));have h2:=F4 (body:=fun s:(List j8)×Int=>a3l s.1 s.2) (s:=([H5 0,H5 1],((2:Nat):Int))) (e [H5 0,H5 1] 2 (by omega) (by simp));have h3:=D7 (body:=fun s:(List j8)×Int=>a3l s.1 s.2) (s:=([H5 0,H5 1,H5 2],((3:Nat):Int))) (show a3l [H5 0,H5 1,H5 2] 3=_ from rfl);unfold b7i;rw [show s2 (fun s:(List j8)×Int=>a3l s.1 s.2) ([],0)=_ from h0.trans (h1.trans (h2.trans h3))];rfl
theorem c7T{w:m8}(h:a0w w):b05 w=some w:=by
 obtain ⟨h1,h2,h3,h4⟩:=h;have b1:=h1.1;have b2:=h2.1;have b3:=h3.1;unfold b05;rw [t6 (b2g h4),a5a (body:=fun s:(List j8)×Int=>b1p w s.1 s.2) w.b7 (h1.fits (by decide)) (fun l=>l) (by
  intro k hk;have hn:((w.b7.take k).length+1)*392<=140737488355328:=f0f (f0d 392 (show (w.b7.take k).length+1<=w.b7.length by rw [f0i];omega)) (f0f b1 (by decide));unfold b1p;rw [z0 _ k hk,u6 hk];simp only [f1C,e9P,a8A (h1.2 _ (e9T hk)),t6 hn]) (by
  unfold b1p;rw [B6];rfl)]
 simp only [e9P,l8.go];unfold b9U;rw [a5a (body:=fun s:(List j9)×Int=>b3m w s.1 s.2) w.d8 (h2.fits (by decide)) (fun l=>l) (by
  intro k hk;have hn:((w.d8.take k).length+1)*152<=140737488355328:=f0f (f0d 152 (show (w.d8.take k).length+1<=w.d8.length by rw [f0i];omega)) (f0f b2 (by decide));unfold b3m;rw [z0 _ k hk,u6 hk];simp only [f1C,e9P,b6L (h2.2 _ (e9T hk)),t6 hn]) (by
  unfold b3m;rw [B6];rfl)]
 simp only [e9P,l8.go];unfold b9Q;rw [a5a (body:=fun s:(List C1)×Int=>b1B w s.1 s.2) w.g7 (h3.fits (by decide)) (fun l=>l) (by
  intro k hk;unfold b1B;have hp:=(h3.2 _ (e9T hk)).2;have hn:((w.g7.take k).length+1)*40<=140737488355328:=f0f (f0d 40 (show (w.g7.take k).length+1<=w.g7.length by rw [f0i];omega)) (f0f b3 (by decide));rw [z0 _ k hk,u6 hk];simp only [f1C,e9P,t6 (b2g hp),t6 hn,f0I]) (by
  unfold b1B;rw [B6];rfl)]
 rfl
theorem c5m{l:List v5}(hl:u5 l)(he:∀e∈l,O5 e):∀(d k:Nat) (w:m8),WI w->l.length-k=d->s2 (fun s:(List j8)×(List j9)×(List C1)×(List o8)×Int=>a3K l s.1 s.2.1 s.2.2.1 s.2.2.2.1 s.2.2.2.2) (w.b7,w.d8,w.g7,w.Told,(k:Int))=some (.brk ((a5w w (l.drop k)).b7,(a5w w (l.drop k)).d8,(a5w w (l.drop k)).g7,(a5w w (l.drop k)).Told))
 | 0,k,w,h,hd=>by
  rw [e97 (by omega)];refine D7 ?_;show a3K l w.b7 w.d8 w.g7 w.Told (k:Int)=_
  unfold a3K;rw [show decide ((k:Int)<(l.length:Int))=false by simp;omega];rfl
 | d+1,k,w,h,hd=>by
  have hlt:k<l.length:=by omega
  obtain ⟨h1,h2⟩:=b6x h (he _ (e9T hlt));have hb:a3K l w.b7 w.d8 w.g7 w.Told (k:Int)=some (.nxt ((L7 w l[k]).b7,(L7 w l[k]).d8,(L7 w l[k]).g7,(L7 w l[k]).Told,((k+1:Nat):Int))):=by
   unfold a3K;rw [z0 _ k hlt,u6 hlt,f1C,e9P,show (⟨w.b7,w.d8,w.g7,w.Told⟩:m8)=w from rfl,h1,e9P,G1 hl hlt]
  rw [F4 (body:=fun s:(List j8)×(List j9)×(List C1)×(List o8)×Int=>a3K l s.1 s.2.1 s.2.2.1 s.2.2.2.1 s.2.2.2.2) (s:=(w.b7,w.d8,w.g7,w.Told,(k:Int))) hb,c5m hl he d (k+1) _ h2 (by omega),f0e hlt];rfl
def noW:m8:=⟨[],[],[],[]⟩
theorem e7j{w:m8}(h:a0w w){l:List v5}(hl:u5 l)(he:∀e∈l,O5 e):b8x w l=some (bif L5 w&&decide (l.length<=400) then a5w w l else noW):=by
 unfold b8x;rw [b46 h,e9P,c7T h,show decide ((l.length:Int)>400) = !decide (l.length<=400) from a9m l 400];cases hw:L5 w
 ·rfl
 ·cases decide (l.length<=400)
  ·rfl
  ·simp only [e9V,f1D,e9P,Bool.and_self,f1C];rw [show s2 (fun s:(List j8)×(List j9)×(List C1)×(List o8)×Int=>a3K l s.1 s.2.1 s.2.2.1 s.2.2.2.1 s.2.2.2.2) (w.b7,w.d8,w.g7,w.Told,0)=_ from c5m hl he l.length 0 w (b2b.1 hw) rfl];rfl
theorem a0R{k a:Int}{p:List r9}(h:p.length<=10):O5 ⟨k,a,p⟩:=⟨by show p.length*32<=_;omega,fun _ _=>trivial⟩
theorem c75(n:Int):∃v,b1i 1 n=some v:=by
 unfold b1i;cases decide ((1:Int)>n)<;>exact ⟨_,rfl⟩
theorem e1j{r:o6}{m:Nat}(h:Rd r m)(hm:m<=1000000)(w:m8):∃e r',b6R r w=some (e,r',w)/\Rd r' (m+210)/\O5 e:=by
 obtain ⟨v,hv⟩:=c75 (w.d8.length:Int);obtain ⟨a,r1,e1,h1,_⟩:=C7 h (by omega) v;obtain ⟨b,r2,e2,h2,_⟩:=C7 h1 (by omega) 24;have ask:∃e r',((A3 r2 3).bind fun p=>(a0x p.2).bind fun q=>some (v5.mk 1 p.1 q.1,q.2,w))=some (e,r',w)/\Rd r' (m+210)/\O5 e:=by
  obtain ⟨c,r3,e3,h3,_⟩:=C7 h2 (by omega) 3;obtain ⟨p,r4,e4,h4,hp⟩:=a8u h3 (by omega);rw [e3,e9P,e4,e9P];exact ⟨_,_,rfl,h4.mono (by omega),a0R hp⟩
 obtain ⟨c3,r3,e3,h3,_⟩:=C7 h2 (by omega) 3;obtain ⟨c4,r4,e4,h4,_⟩:=C7 h2 (by omega) 2;obtain ⟨c5,r5,e5,h5,_⟩:=C7 h4 (by omega) 3;obtain ⟨c6,r6,e6,h6,_⟩:=C7 h3 (by omega) 10;obtain ⟨c7,r7,e7,h7,_⟩:=C7 h6 (by omega) 5;obtain ⟨p,r8,e8,h8,hp⟩:=a8u h3 (by omega);have z:∀(k x:Int) (r:o6) (j:Nat),Rd r j->j<=m+210->∃e r',(some (v5.mk k x [],r,w):Option (v5×o6×m8))=some (e,r',w)/\Rd r' (m+210)/\O5 e:=fun k x r j hr hj=>⟨_,_,rfl,hr.mono hj,a0R (by simp)⟩
 unfold b6R;rw [hv,e9P,e1,e9P,e2,e9P];simp only [e3,e4,e5,e6,e7,e8,e9P];cases b==0
 ·cases b==1
  ·cases b==2
   ·cases b==3
    ·cases b==4
     ·cases b==5
      ·cases b==6
       ·cases b==7
        ·cases b==8
         ·cases b==9
          ·cases b==10
           ·exact z _ _ _ _ h2 (by omega)
           ·cases c3==0
            ·exact z _ _ _ _ h3 (by omega)
            ·exact z _ _ _ _ h7 (by omega)
          ·exact z _ _ _ _ h2 (by omega)
         ·exact z _ _ _ _ h2 (by omega)
        ·cases c4==0
         ·exact z _ _ _ _ h4 (by omega)
         ·exact z _ _ _ _ h5 (by omega)
       ·exact z _ _ _ _ h3 (by omega)
      ·exact z _ _ _ _ h3 (by omega)
     ·exact z _ _ _ _ h3 (by omega)
    ·exact ⟨_,_,rfl,h8.mono (by omega),a0R hp⟩
   ·exact ⟨_,_,rfl,h8.mono (by omega),a0R hp⟩
  ·exact ⟨_,_,rfl,h8.mono (by omega),a0R hp⟩
 ·exact ⟨_,_,rfl,h8.mono (by omega),a0R hp⟩
structure Far(w:m8)(out:List v5)(b:Nat):Prop where
 w:WI w
 e:∀x∈out,O5 x
 l:out.length<=b
theorem d2N{out:List v5}{e:v5}(h:∀x∈out,O5 x)(he:O5 e):∀x∈out++[e],O5 x:=by
 intro x hx;rcases e9S.1 hx with q|q
 ·exact h x q
 ·rw [e92.1 q];exact he
theorem a6y{α:Type}{l:List α}(z:α)(b:Nat)(h:l.length*b<=140737488351232):(bif ((l.length:Int)==0) then some [] else s6 (0<=(l.length:Int)/\(l.length:Int)*(b:Int)<=140737488355328) (s6 (l.length=(e9R (l.length:Int).toNat z).length) (some l)))=some l:=by
 cases hl:((l.length:Int)==0)
 ·have:(l.length:Int)*(b:Int)=((l.length*b:Nat):Int):=by rw [Int.natCast_mul]
  rw [f1D,t6 ⟨by omega,by omega⟩,t6 (by simp)]
 ·simp only [beq_iff_eq] at hl;rw [e93 (by omega:l.length=0)];rfl
theorem b4t{α R:Type}{body:List α×Int->Option (l9 R (List α×Int) (List α))}(l:List α)(hl:u5 l)(h1:∀(k:Nat) (hk:k<l.length),body (l,(k:Int))=some (.nxt (l.set k l[k],m4 ((k:Int)+1))))(h2:body (l,(l.length:Int))=some (.brk l)):s2 body (l,0)=some (.brk l):=by
 have:=a0C (body:=body) (fun k=>(l,(k:Int))) l.length fun k hk=>by rw [h1 k hk,G1 hl hk,List.set_getElem_self]
 exact this.trans (D7 h2)
theorem a54{α:Type}{body:Int->Option (l9 Bool Int Unit)}(l:List α)(hl:u5 l)(h1:∀(k:Nat) (hk:k<l.length),body (k:Int)=some (.nxt (m4 ((k:Int)+1))))(h2:body (l.length:Int)=some (.brk ())):s2 body 0=some (.brk ()):=by
 have:=a0C (body:=body) (fun k=>(k:Int)) l.length fun k hk=>by rw [h1 k hk,G1 hl hk]
 exact this.trans (D7 h2)
theorem b34{l:List m6}(h:A0 96 G2 l):a72 l=some l:=by
 unfold a72;rw [show b81 l=some l from a6y _ 96 h.1,e9P,b4t l (h.fits (by decide))]
 ·rfl
 ·intro k hk;unfold b5f;rw [z0 _ k hk,f1C,u6 hk,e9P,b2n (h.2 _ (e9T hk)).2];rfl
 ·unfold b5f;rw [B6];rfl
theorem b4y{x:v6}(h:a6m x):a3L x=some x:=by
 unfold a3L;rw [b34 h.2];rfl
theorem d2c{l:List Bool}(h:A0 1 okT l):b4N l=some l:=a6y _ 1 h.1
theorem c6B{l:List r9}(h:l.length*32<=140737488351232):b4D l=some l:=a6y _ 32 h
theorem c5V{l:List o8}(h:l.length*40<=140737488351232):b7x l=some l:=a6y _ 40 h
theorem b7k{n:j8}(h:P5 n):a6Y n=some n:=by
 obtain ⟨h1,h2,h3,h4,h5,h6,h7,h8,h9,h10,h11,h12,h13⟩:=h;unfold a6Y;rw [b4y h2,e9P,c4l h3,e9P,d2c h7,e9P,b34 h8,e9P,b2n h9,e9P,d2c h10,e9P,c6B h11.1,e9P,b2n h12,e9P,c4l h13];rfl
theorem e3G{m:j9}(h:F9 m):b57 m=some m:=by
 unfold b57;rw [b2n h.2.2.2.2.2.1,e9P,b34 h.2.2.2.2.2.2];rfl
theorem d2z{l:List j9}(h:A0 152 F9 l):b0l l=some l:=by
 unfold b0l;rw [show c2v l=some l from a6y _ 152 h.1,e9P,b4t l (h.fits (by decide))]
 ·rfl
 ·intro k hk;unfold b6W;rw [z0 _ k hk,f1C,u6 hk,e9P,e3G (h.2 _ (e9T hk))];rfl
 ·unfold b6W;rw [B6];rfl
theorem c1i{w:m8}(h:a0w w):a18 w=some w:=by
 obtain ⟨h1,h2,h3,h4⟩:=h;unfold a18 c2s;rw [show b9B w.b7=some w.b7 from a6y _ 392 h1.1,e9P,d2z h2,e9P,show c0o w.g7=some w.g7 from a6y _ 40 h3.1,e9P,c5V h4.1,e9P,b4t w.b7 (h1.fits (by decide))]
 ·simp only [e9P,l8.go];rw [b4t w.g7 (h3.fits (by decide))]
  ·rfl
  ·intro k hk;unfold b6P;rw [z0 _ k hk,f1C,u6 hk,e9P,c6B (h3.2 _ (e9T hk)).2.1];rfl
  ·unfold b6P;rw [B6];rfl
 ·intro k hk;unfold b6u;rw [z0 _ k hk,f1C,u6 hk,e9P,b7k (h1.2 _ (e9T hk))];rfl
 ·unfold b6u;rw [B6];rfl
theorem b1X{e:m5}(h:E1 e):Z2 e e=some true:=by
 unfold Z2;have:a3A e.b9 e.b9=true:=(c3g _ _).2 rfl;simp only [beq_self_eq_true,f1C,c20 h.2.f,this,e9P]
theorem c2n{l:List m6}(h:A0 96 G2 l):a9p l l=some true:=by
 unfold a9p;rw [bne_self_eq_false,f1D,a54 l (h.fits (by decide))]
 ·rfl
 ·intro k hk;unfold b3V;simp only [z0 _ k hk,f1C,u6 hk,e9P,bne_self_eq_false,f1D,b1X (h.2 _ (e9T hk)).2,e9V]
 ·unfold b3V;rw [B6];rfl
theorem c57{l:List m5}(h:A0 88 E1 l):b0q l l=some true:=by
 unfold b0q;rw [bne_self_eq_false,f1D,a54 l (h.fits (by decide))]
 ·rfl
 ·intro k hk;unfold b7C;simp only [z0 _ k hk,f1C,u6 hk,e9P,f1D,b1X (h.2 _ (e9T hk)),e9V]
 ·unfold b7C;rw [B6];rfl
theorem c5s{l:List Bool}(h:u5 l):b2A l l=some true:=by
 unfold b2A;rw [bne_self_eq_false,f1D,a54 l h]
 ·rfl
 ·intro k hk;unfold b54;simp only [z0 _ k hk,f1C,u6 hk,e9P,beq_self_eq_true,f1D,e9V]
 ·unfold b54;rw [B6];rfl
theorem d2m{l:List r9}(h:u5 l):b1Z l l=some true:=by
 unfold b1Z b8H;rw [bne_self_eq_false,f1D,a54 l h]
 ·rfl
 ·intro k hk;unfold b6X;simp only [z0 _ k hk,f1C,u6 hk,e9P,beq_self_eq_true,f1D,e9V]
 ·unfold b6X;rw [B6];rfl
theorem e0G{l:List o8}(h:u5 l):b5M l l=some true:=by
 unfold b5M;rw [bne_self_eq_false,f1D,a54 l h]
 ·rfl
 ·intro k hk;unfold b6i;simp only [z0 _ k hk,f1C,u6 hk,e9P,beq_self_eq_true,f1D,e9V]
 ·unfold b6i;rw [B6];rfl
theorem e6K{n:j8}(h:P5 n):b4h n n=some true:=by
 obtain ⟨h1,h2,h3,h4,h5,h6,h7,h8,h9,h10,h11,h12,h13⟩:=h;unfold b4h c1H;simp only [beq_self_eq_true,f1C,c2n h2.2,c57 h3,c5s (h7.fits (by decide)),c2n h8,b1X h9,c5s (h10.fits (by decide)),d2m (h11.fits (by decide)),b1X h12,c57 h13,e9P]
theorem b5H{w:m8}(h:a0w w):a8w w w=some true:=by
 obtain ⟨h1,h2,h3,h4⟩:=h;unfold a8w c2c b9w;simp only [bne_self_eq_false,f1D,e0G (h4.fits (by decide)),e9P,e9V];rw [a54 w.b7 (h1.fits (by decide)) (fun k hk=>by
  unfold b3Y;simp only [z0 _ k hk,f1C,u6 hk,e9P,e6K (h1.2 _ (e9T hk)),f1D,e9V]) (by unfold b3Y;rw [B6];rfl)]
 simp only [e9P,l8.go];rw [a54 w.d8 (h2.fits (by decide)) (fun k hk=>by
  have:=h2.2 _ (e9T hk);unfold b6n b9Y;simp only [z0 _ k hk,f1C,u6 hk,e9P,beq_self_eq_true,b1X this.2.2.2.2.2.1,c2n this.2.2.2.2.2.2,f1D,e9V]) (by unfold b6n;rw [B6];rfl)]
 simp only [e9P,l8.go];rw [a54 w.g7 (h3.fits (by decide)) (fun k hk=>by
  unfold b5Q;simp only [z0 _ k hk,f1C,u6 hk,e9P,beq_self_eq_true,d2m ((h3.2 _ (e9T hk)).2.fits (by decide)),f1D,e9V]) (by unfold b5Q;rw [B6];rfl)]
 rfl
theorem d1o{a:p6}(h:u5 a.n.a7)(q:s3):b0R a q=some (N3 a.n.a7 q,a):=by
 unfold b0R;rw [c02 h,e9P,c04];cases a.n.a7.findIdx? (N9 q) with
 | none=>rfl
 | some k=>simp
theorem e7t{a:p6}(h:u5 a.n.a7)(q:s3):b7P a q=some (N3 a.n.a7 q,a):=by
 unfold b7P;rw [c02 h,e9P,c04];cases a.n.a7.findIdx? (N9 q) with
 | none=>rfl
 | some k=>simp
def qA(a:p6)(q:List m5):p6:=⟨{a.n with d6:=q},a.out,a.told⟩
theorem d8m{a:p6}{q:List m5}(h:a.n.d6=q):qA a q=a:=by
 subst h;rfl
theorem d29{known:List m5}(hk:u5 known):∀(q:List m5) (a:p6),a.n.a7=known->A0 88 E1 q->a.n.d6=q->s2 (fun s:p6=>a4D s) a=some (match R0 known q with
  | (q',some e)=>.ret (e,true,qA a q')
  | (q',none)=>.brk (qA a q'))
 | [],a,h1,_,h2=>by
  rw [D7 (body:=fun s:p6=>a4D s) (b:=a) (by unfold a4D;rw [h2];rfl)];show _=some (l8.brk (qA a []))
  rw [d8m h2]
 | e::q,a,h1,hq,h2=>by
  have hl:(e::q).length*88<=140737488351232:=hq.1;rw [f0F] at hl;have hb:a4D a=some (bif N3 known e.a5 then .nxt (qA a q) else .ret (e,true,qA a q)):=by
   unfold a4D;rw [h2,show idx (e::q) 0=some e from rfl,show decide ((((e::q).length:Nat):Int)>0)=true by simp,f1C,e9P,t6 (by simp;omega),show ((e::q).drop (1:Int).toNat).take ((e::q).length-(1:Int).toNat)=q by simp];rw [show (⟨⟨a.n.Id,a.n.Acc,a.n.a7,a.n.Seq,a.n.f0,a.n.a8,a.n.c9,a.n.i4,a.n.c8,a.n.a0,a.n.j3,a.n.i7,a.n.b8,q⟩,a.out,a.told⟩:p6)=qA a q from rfl,d1o (a:=qA a q) (by show u5 a.n.a7;rw [h1];exact hk),e9P,show (qA a q).n.a7=known from h1];cases N3 known e.a5<;>rfl
  unfold R0;cases hkn:N3 known e.a5
  ·rw [Z4 (body:=fun s:p6=>a4D s) (r:=(e,true,qA a q)) (by rw [hb,hkn];rfl)];rfl
  ·rw [F4 (body:=fun s:p6=>a4D s) (t:=qA a q) (by rw [hb,hkn];rfl),d29 hk q (qA a q) h1 ⟨by omega,fun x hx=>hq.2 x (f1u _ hx)⟩ rfl];rfl
def b25(a:p6)(x:j8×Option m5):m5×Bool×p6:=match x with
 | (n,some e)=>(e,true,⟨n,a.out,a.told⟩)
 | (n,none)=>(zE,false,⟨n,a.out,a.told⟩)
theorem e28{a:p6}(hf:u5 a.n.i4)(hv:∀v∈a.n.i4,0<=v.a8):∀(m k:Nat),a.n.i4.length-k=m->s2 (fun s:Int=>a3N a s) (k:Int)=some (bif (a.n.i4.drop k).any (fun v=>decide (v.a8>0)) then .ret (eN,true,a) else .brk ()):=by
 intro m;induction m with
 | zero=>
  intro k hk;rw [D7 (body:=fun s:Int=>a3N a s) (b:=()) (by unfold a3N;rw [show decide ((k:Int)<(a.n.i4.length:Int))=false by simp;omega];rfl),e97 (by omega)];rfl
 | succ m ih=>
  intro k hk;have hlt:k<a.n.i4.length:=by omega
  have hb:a3N a (k:Int)=some (bif decide (a.n.i4[k].a8>0) then .ret (eN,true,a) else .nxt ((k+1:Nat):Int)):=by
   have h0:=hv _ (e9T hlt);unfold a3N;rw [z0 _ k hlt,f1C,u6 hlt,e9P,G1 hf hlt,show (a.n.i4[k].a8 != 0)=decide (a.n.i4[k].a8>0) by
    rw [Bool.eq_iff_iff];simp;omega]
   cases decide (a.n.i4[k].a8>0)<;>rfl
  rw [f0e hlt,List.any_cons];cases hd:decide (a.n.i4[k].a8>0)
  ·rw [hd] at hb;rw [F4 (body:=fun s:Int=>a3N a s) hb,ih (k+1) (by omega),f0t]
  ·rw [hd] at hb;rw [Z4 (body:=fun s:Int=>a3N a s) hb,f1r];rfl
theorem e5F{a:p6}(h:P5 a.n)(hv:∀v∈a.n.i4,0<=v.a8):b6M a=some (b25 a (a09 a.n)):=by
 obtain ⟨h1,h2,h3,h4,h5,h6,h7,h8,h9,h10,h11,h12,h13⟩:=h;have hk:u5 a.n.a7:=h3.fits (by decide);have hbf:u5 a.n.i4:=h8.fits (by decide);have j1:b4Y a=some (b25 a ({a.n with d6:=(R0 a.n.a7 a.n.d6).1},(R0 a.n.a7 a.n.d6).2)):=by
  unfold b4Y;rw [d29 hk _ a rfl h13 rfl];obtain ⟨q,o⟩:=R0 a.n.a7 a.n.d6;cases o<;>rfl
 have j2:(∀v,a.n.i4[a.n.a7.length]?=some v->¬v.a8>0)->b4V a=some (b25 a (a4j a.n)):=by
  intro hn;have hd:(a.n.i4.drop (a.n.a7.length+1)).any (fun v=>decide (v.a8>0))=(a.n.i4.drop a.n.a7.length).any (fun v=>decide (v.a8>0)):=by
   by_cases hl:a.n.a7.length<a.n.i4.length
   ·rw [f0e hl,List.any_cons,show decide (a.n.i4[a.n.a7.length].a8>0)=false by
     simpa using hn _ (e9Q hl),f0t]
   ·rw [e97 (by omega),e97 (by omega)]
  unfold b4V a4j;rw [B9 (by omega) (by have:=h3.1;omega),show ((a.n.a7.length:Int)+1)=((a.n.a7.length+1:Nat):Int) from rfl,e28 hbf hv _ _ rfl,hd];generalize (({a.n with d6:=(R0 a.n.a7 a.n.d6).1},(R0 a.n.a7 a.n.d6).2):j8×Option m5)=X at j1⊢;cases (a.n.i4.drop a.n.a7.length).any fun v=>decide (v.a8>0)
  ·simp only [f1D,e9P,l8.go];unfold c3D;cases a.n.j3
   ·exact j1
   ·simp only [f1C,d1o hk,e9P,e99];cases N3 a.n.a7 a.n.b8.a5
    ·rfl
    ·exact j1
  ·rfl
 unfold b6M a09;by_cases hl:a.n.a7.length<a.n.i4.length
 ·rw [z0 _ _ hl,u6 hl,e9Q hl];have h0:=hv _ (e9T hl);rw [f1C,e9P,show (a.n.i4[a.n.a7.length].a8 != 0)=decide (a.n.i4[a.n.a7.length].a8>0) by rw [Bool.eq_iff_iff];simp;omega];simp only;cases hd:decide (a.n.i4[a.n.a7.length].a8>0)
  ·exact j2 (by rw [e9Q hl];intro v hv;injection hv with hv;subst hv;simpa using hd)
  ·rfl
 ·rw [show decide ((a.n.a7.length:Int)<(a.n.i4.length:Int))=false by simp;omega,f0l (by omega)];exact j2 (by rw [f0l (by omega)];simp)
theorem NI.accOk{n:j8}(h:NI n):O7 n.Acc=true/\a6m n.Acc:=by
 have:=a0l.2 h;unfold D5 at this;simp only [e9U] at this;exact ⟨by simp_all,h.ok.2.1⟩
theorem b5V{a:v6}(h:O7 a=true)(ho:a6m a)(b:Int):a8C a b=some (match J4 a b with|some x=>(x,true)|none=>(a,false)):=by
 unfold a8C J4 a6X;rw [c97 ho,e9P,h,b4y ho,M2];simp only [e9V,f1D,e9P];cases q8 b 1 3000
 ·rfl
 ·cases hd:decide (b<a.i5)
  ·rw [show decide (a.i5<=b)=true by simp at hd⊢;omega];rfl
  ·rw [show decide (a.i5<=b)=false by simp at hd⊢;omega];rfl
theorem d9S{a:v6}(h:O7 a=true)(ho:a6m a)(b:Int):c0X a b=some (match J4 a b with|some x=>(x,true)|none=>(a,false)):=b5V h ho b
theorem d0V(slot:Nat)(hs:slot<40):∀(m:Nat) (vs:List m6),slot+1-vs.length=m->s2 (fun s:List m6=>a7V (slot:Int) s) vs=some (.brk (U7 vs (slot+1)))
 | 0,vs,hm=>by
  rw [D7 (body:=fun s:List m6=>a7V (slot:Int) s) (b:=vs) (by unfold a7V;rw [show decide ((vs.length:Int)<=(slot:Int))=false by simp;omega];rfl)];unfold U7;rw [hm];simp
 | m+1,vs,hm=>by
  rw [F4 (body:=fun s:List m6=>a7V (slot:Int) s) (t:=vs++[v0]) (by unfold a7V;rw [show decide ((vs.length:Int)<=(slot:Int))=true by simp;omega,f1C,t6 (by omega)];rfl),d0V slot hs m _ (by simp;omega)];unfold U7;rw [e94,f0O,show slot+1-vs.length=(slot+1-(vs.length+1))+1 by omega,f1f,e95];rfl
theorem c6N{a:v6}(h:O7 a=true)(ho:a6m a)(hl:a.a0.length<=40){b s:Int}(hb:C3 b){e:m5}(he:E1 e):b2E a b s e=some (match O3 a b s e with|some x=>(x,true)|none=>(a,false)):=by
 unfold b2E O3;rw [d9S h ho,e9P,M2,a6o he.f,b4y ho];cases hp:J4 a b with
 | none=>cases q8 s 0 39&&z6 e<;>rfl
 | some x=>
  obtain ⟨rfl,hb1,hb2,hb3⟩:=a9l hp;simp only [e9V,f1D,e9P];cases hs:q8 s 0 39
  ·rfl
  cases z6 e
  ·rfl
  obtain ⟨k,rfl⟩:∃k:Nat,s=(k:Int):=⟨s.toNat,by rw [H4] at hs;omega⟩
  rw [H4] at hs;have hlen:=b9o a.a0 (k+1);have hk:k<(U7 a.a0 (k+1)).length:=by rw [hlen];omega
  simp only [e9V,Bool.and_self,f1D,f1C,e9P,f0M,f0k];rw [d0V k (by omega) _ _ rfl];simp only [e9P,l8.go,b8E];rw [u6 hk,e9P,f0k,b4y (x:=⟨b,(U7 a.a0 (k+1)).set k ⟨b,e⟩⟩) ⟨hb,R9 (by rw [f0B,hlen];omega) (by
   intro v hv;rcases f0b hv with q|q
   ·rcases d19 q with q|q
    ·exact ho.2.2 v q
    ·rw [q];exact b5L
   ·rw [q];exact ⟨hb,he⟩)⟩]
  rfl
theorem a7H{a:p6}(h:a.out.length<=1000)(to:Int)(m:j9):a3u a to m=some ⟨a.n,a.out++[{m with c9:=a.n.Id,To:=to}],a.told⟩:=by
 unfold a3u;rw [t6 (by omega)]
def a0u(m:j9)(a:p6)(t:Int):p6:=bif t != a.n.Id then ⟨a.n,a.out++[{m with c9:=a.n.Id,To:=t}],a.told⟩ else a
theorem c6I(m:j9)(a:p6)(t:Int):(a0u m a t).out.length<=a.out.length+1:=by
 unfold a0u;cases t != a.n.Id<;>simp
theorem a5b{a:p6}(hid:0<=a.n.Id/\a.n.Id<=2)(h:a.out.length<=900)(m:j9):a2k a m=some ⟨a.n,a.out++N5 a.n.Id m,a.told⟩:=by
 have e:∀(a:p6) (t:Int),a.out.length<=1000->0<=t->t<3->a4F m t a=some (.nxt (t+1,a0u m a t)):=by
  intro a t ho h0 h1;unfold a4F c3F a0u;rw [show decide (t<3)=true by simpa using h1,f1C,a7H ho,B9 (by omega) (by omega)];cases t != a.n.Id<;>rfl
 have l1:=c6I m a 0;have l2:=c6I m (a0u m a 0) (0+1);have h0:=F4 (body:=fun s:Int×p6=>a4F m s.1 s.2) (s:=(0,a)) (e a 0 (by omega) (by omega) (by omega));have h1:=F4 (body:=fun s:Int×p6=>a4F m s.1 s.2) (s:=(0+1,a0u m a 0)) (e (a0u m a 0) (0+1) (by omega) (by omega) (by omega));have h2:=F4 (body:=fun s:Int×p6=>a4F m s.1 s.2) (s:=(0+1+1,a0u m (a0u m a 0) (0+1))) (e (a0u m (a0u m a 0) (0+1)) (0+1+1) (by omega) (by omega) (by omega));have h3:=Z4 (body:=fun s:Int×p6=>a4F m s.1 s.2) (s:=(0+1+1+1,a0u m (a0u m (a0u m a 0) (0+1)) (0+1+1))) (show a4F m (0+1+1+1) _=_ from rfl);unfold a2k;rw [h0,h1,h2,h3];obtain ⟨n,o,t⟩:=a;simp only [e9P,l8.go];have hid':n.Id=0\/n.Id=1\/n.Id=2:=by have:=hid.1;have:=hid.2;simp only at *;omega
 rcases hid' with q|q|q<;>simp [a0u,N5,q]
theorem c6x{a:p6}(h:0<=a.n.Id/\a.n.Id<=2):b3n a=some (a68 a.n.Id,a):=by
 obtain ⟨y,hy⟩:=c10 h;unfold b3n;rw [t6 (by decide),hy];rfl
theorem c2W(a:p6):b3w a=some ⟨a7b a.n,a.out,a.told⟩:=rfl
theorem b39(a:p6)(b:Int):a95 a b=some ⟨X6 a.n b,a.out,a.told⟩:=by
 unfold a95 X6;rw [c2W];cases a.n.f0 != 0
 ·rfl
 ·cases decide (b>a.n.a8)<;>rfl
theorem a1x.bal0{n:j8}(h:a1x n):∀v∈n.i4,0<=v.a8:=fun v hv=>(h.best.2 v hv).bal.1
def X3(a:p6)(x:j8×List j9):p6:=⟨x.1,a.out++x.2,a.told⟩
theorem a7I(a:p6):X3 a (a.n,[])=a:=by
 unfold X3;rw [f0x]
theorem b2J{a:p6}(h:NI a.n)(ho:a.out.length<=900):a52 a=some (X3 a (T0 a.n)):=by
 unfold a52 T0;rw [show decide ((a.n.a7.length:Int)>=40)=decide (40<=a.n.a7.length) by simp;omega];cases a.n.f0 != 2
 ·simp only [f1D,f0t];cases hlt:decide (40<=a.n.a7.length)
  ·simp only [f1D,e5F h.ok h.ld.bal0,e9P];obtain ⟨q,hq,hql,hqm,hqe⟩:=b4O a.n;cases hx:a09 a.n with
   | mk x o=>
   rw [hx] at hq hqe;have hq:x={a.n with d6:=q}:=hq;subst hq;cases o with
   | none=>
    simp only [b25,f0a,f1C,X3];rw [f0x]
   | some e=>
    have he:=(hqe e rfl).ok h.ok;obtain ⟨c1,c2⟩:=h.accOk;simp only [b25,e9V,f1D];rw [c6N (a:=a.n.Acc) c1 c2 h.vl h.ok.2.2.2.2.2.1 he,e9P];simp only [a9g];cases hc:O3 a.n.Acc a.n.a8 (a.n.a7.length:Int) e with
    | none=>
     simp only [f0a,f1C,c2W,e9P,X3];rw [f0x]
    | some x=>
     simp only [e9V,f1D];rw [c6x (by exact h.id),e9P];simp only;rw [a5b (by exact h.id) (by exact ho)];rfl
  ·simp only [f1C];rw [a7I]
 ·simp only [f1C,f1r];rw [a7I]
def a2o(a:p6)(x:j8×List j9×List o8):p6:=⟨x.1,a.out++x.2.1,a.told++x.2.2⟩
theorem b7W(a:p6):a2o a (a.n,[],[])=a:=by
 unfold a2o;rw [f0x,f0x]
theorem e8U{a:p6}(h:NI a.n)(ho:a.out.length<=900)(ht:a.told.length<=900):b5Z a=some (a2o a ((T0 (W4 a.n).1).1,(T0 (W4 a.n).1).2,(W4 a.n).2)):=by
 have hk:u5 a.n.a7:=h.ok.2.2.1.fits (by decide);obtain ⟨hl,he⟩:=a7N h.list;have j1:∀b:p6,NI b.n->b.out.length<=900->b7g b=some (X3 b (T0 b.n)):=by
  intro b hb hbo;unfold b7g;rw [b2J hb hbo];rfl
 unfold b5Z W4;rw [c02 hk,e9P];cases hb:a.n.j3
 ·simp only [f1D,e9P,l8.go];rw [j1 a h ho];simp only [X3,a2o,f0x]
 ·cases hf:a.n.a7.findIdx? (N9 a.n.b8.a5) with
  | none=>
   simp only [f1C];rw [show decide ((-1:Int)>=0)=false from rfl];simp only [f1D,e9P,l8.go];rw [j1 a h ho];simp only [X3,a2o,f0x]
  | some k=>
   obtain ⟨hkl,h1,h2⟩:=c3N hf;have hlen:(A2 a.n.a7).2.length=a.n.a7.length:=by
    have:=(a4f hl he a.n.a7.length (f0u _)).2.1;rwa [f0r] at this
   have hc:idx (A2 a.n.a7).2 (k:Int)=some (a0t a.n.a7 k):=by
    rw [u6 (by omega)];unfold a0t;rw [e9Q (by omega)];rfl
   have hj2:∀v:Int,b5t a (a0t a.n.a7 k) v=some (.brk ⟨a4Z a.n,a.out,a.told++[⟨a.n.Id,a.n.b8.a5,a0t a.n.a7 k,v⟩]⟩):=by
    intro v;unfold b5t;rw [t6 (by omega)];rfl
   have hv:a40 a.n.a7 a.n.b8.a5=a.n.a7[k].b9.d9:=by
    unfold a40;rw [hf];simp only [e9Q hkl]
   simp only [f1C];rw [show decide ((k:Int)>=0)=true by simp];simp only [f1C];rw [c9p (okEntries.f h.ok.2.2.1) hl he,e9P,hc,e9P,u6 hkl,hv];cases a0t a.n.a7 k==0
   ·simp only [f1D,e9P,l8.go,hj2];exact j1 ⟨a4Z a.n,a.out,_⟩ h.freeN ho
   ·simp only [f1C,e9P,l8.go,hj2];exact j1 ⟨a4Z a.n,a.out,_⟩ h.freeN ho
theorem c4x{a:p6}(h:NI a.n)(hl:a.n.a7.length<40){e:m5}(he:z6 e=true)(ho:a.out.length<=900)(ht:a.told.length<=900):b1E a e=some (a2o a (a02 a.n e)):=by
 have hk:=e8U (a:=⟨T4 a.n e,a.out,a.told⟩) (h.know he hl) ho ht;unfold b1E;rw [t6 (by omega)];unfold T4 at hk;cases hp:a.n.f0==3
 ·rw [hp] at hk;simp only [f1D,e9P,l8.go] at hk⊢;refine hk.trans ?_;unfold a02 T4;rw [hp];rfl
 ·rw [hp] at hk;simp only [f1C,e9P,l8.go] at hk⊢;refine hk.trans ?_;unfold a02 T4;rw [hp];rfl
theorem S8.two{m:j9}(h:S8 m)(hk:m.a6=2):(m.a0.length<=40/\∀v∈m.a0,VI v)/\m.g8+m.a0.length<=40:=by
 rcases h with q|q|q|q|q|q|q
 ·omega
 ·exact ⟨q.2.2.2.1,q.2.2.2.2⟩
 all_goals exact absurd q.1 (by omega)
theorem S8.five{m:j9}(h:S8 m)(hk:m.a6=5):m.g8<40/\z6 m.g9=true:=by
 rcases h with q|q|q|q|q|q|q
 ·omega
 ·omega
 ·omega
 ·exact ⟨q.2.2.1,q.2.2.2.1⟩
 all_goals exact absurd q.1 (by omega)
theorem e1w{a:p6}(h:NI a.n){m:j9}(hm:MI m)(ho:a.out.length<=900)(hto:m.To=a.n.Id):b7Z a m=some (X3 a (a4N a.n m)):=by
 obtain ⟨c1,c2⟩:=h.accOk;have hs:=hm.sl;unfold b7Z a4N;rw [b5V c1 c2,e9P];cases hp:J4 a.n.Acc m.a8 with
 | none=>
  simp only [f0a,f1C];rw [a7H (by omega)];simp only [e9P,X3,a0c,hto]
 | some x=>
  obtain ⟨rfl,_⟩:=a9l hp;simp only [e9V,f1D,b39,e9P];have hy:∀(n:j8) (vs:List m6),n.Id=a.n.Id->b8a m ⟨n,a.out,a.told⟩ vs=some ⟨n,a.out++[a0c m ⟨2,0,0,m.a8,m.g8,zE,vs⟩],a.told⟩:=by
   intro n vs hn;unfold b8a;rw [a7H (a:=⟨n,a.out,a.told⟩) (by exact f0f ho (by decide))];simp only [e9P,a0c,hto,hn]
  have hid:(X6 (⟨a.n.Id,⟨m.a8,a.n.Acc.a0⟩,a.n.a7,a.n.Seq,a.n.f0,a.n.a8,a.n.c9,a.n.i4,a.n.c8,a.n.a0,a.n.j3,a.n.i7,a.n.b8,a.n.d6⟩) m.a8).Id=a.n.Id:=b1b _ _;obtain ⟨k,hk⟩:∃k:Nat,m.g8=(k:Int):=⟨m.g8.toNat,by omega⟩
  cases hd:decide (m.g8<(a.n.Acc.a0.length:Int))
  ·simp only [f1D,e9P,l8.go];rw [hy _ _ hid,e97 (by simp at hd;omega)];rfl
  ·simp only [f1C];rw [t6 (by simp at hd;omega)];simp only [e9P,l8.go];rw [hy _ _ hid,c3s];rfl
theorem d65{a:p6}(h:NI a.n){m:j9}(hm:MI m)(ho:a.out.length<=900)(hto:m.To=a.n.Id):b7V a m=some (X3 a (a4u a.n m)):=by
 obtain ⟨c1,c2⟩:=h.accOk;unfold b7V a4u;rw [c6N c1 c2 h.vl hm.ok.2.2.2.1 hm.ok.2.2.2.2.2.1,e9P];cases O3 a.n.Acc m.a8 m.g8 m.g9 with
 | none=>
  simp only [f0a,f1C];rw [a7H (by omega)];simp only [e9P,X3,a0c,hto]
 | some x=>
  simp only [e9V,f1D,b39,e9P];rw [a7H (by simp only;omega)];simp only [e9P,X3,a0c,hto,b1b]
theorem c7h:∀(l:List Bool) (hl:u5 l) (m k:Nat) (c:Int),k+m=l.length->0<=c->c<=k->s2 (fun s:Int×Int=>a4w l s.1 s.2) (c,(k:Int))=some (.brk (c+(((l.drop k).filter (· == true)).length:Int)))
 | l,hl,0,k,c,hk,h0,h1=>by
  have:k=l.length:=by omega
  subst this;rw [D7 (body:=fun s:Int×Int=>a4w l s.1 s.2) (b:=c) (by unfold a4w;rw [B6];rfl)];simp
 | l,hl,m+1,k,c,hk,h0,h1=>by
  have hlt:k<l.length:=by omega
  have hf:=hl;unfold u5 at hf;have hb:a4w l c (k:Int)=some (.nxt (bif l[k] then c+1 else c,((k+1:Nat):Int))):=by
   unfold a4w b96;rw [z0 _ k hlt,f1C,u6 hlt,e9P,G1 hl hlt,B9 (by omega) (by omega)];cases l[k]<;>rfl
  rw [F4 (body:=fun s:Int×Int=>a4w l s.1 s.2) hb,c7h l hl m (k+1) _ (by omega) (by cases l[k]<;>simp<;>omega) (by cases l[k]<;>simp<;>omega),f0e hlt];cases l[k]<;>simp<;>omega
theorem c66{l:List Bool}(h:u5 l):∃c,b0F l=some c/\decide (c>=2)=U3 l:=by
 unfold b0F;rw [show s2 (fun s:Int×Int=>a4w l s.1 s.2) (0,0)=_ from c7h l h l.length 0 0 (by omega) (by omega) (by omega)];refine ⟨_,rfl,?_⟩;unfold U3;rw [Bool.eq_iff_iff];simp only [f0S,decide_eq_true_eq];omega
theorem d8k{a b:List m6}(ha:a.length<=40/\∀v∈a,VI v)(hb:b.length<=40/\∀v∈b,VI v):b4i a b=some (E7 a b):=by
 have oa:=a3G (by omega) ha.2;have ob:=a3G (by omega) hb.2;have hlen:=a9b a b;have hok:A0 96 G2 (E7 a b):=a3G (by omega) fun v hv=>(b8g hv).elim (ha.2 v) (hb.2 v)
 unfold b4i;rw [b0g oa,e9P,a7d.2 ha,b0g ob,e9P,a7d.2 hb];simp only [e9V,f1D];rw [a5a (body:=fun s:(List m6)×Int=>a5K a b s.1 s.2) (E7 a b) (by unfold u5;omega) (fun l=>l) (by
  intro k hk;have hget:=b4k a b k;rw [e9Q hk] at hget;have hj1:∀l:List m6,c0V (k:Int) l=some (.nxt (l,m4 ((k:Int)+1))):=fun _=>rfl
  have htl:(((E7 a b).take k).length+1)*96<=140737488355328:=by rw [f0i];omega
  show a5K a b ((E7 a b).take k) (k:Int)=_
  have hstart:a5K a b ((E7 a b).take k) (k:Int)=b7s a b ((E7 a b).take k) (k:Int):=by
   unfold a5K;by_cases h1:k<a.length
   ·rw [z0 _ k h1];rfl
   ·rw [show decide ((k:Int)<(a.length:Int))=false by simp;omega,z0 _ k (by omega)];rfl
  rw [hstart];unfold b7s;by_cases h1:k<a.length
  ·rw [show decide ((k:Int)>=(a.length:Int))=false by simp;omega,u6 h1];rw [e9Q h1] at hget;by_cases h2:k<b.length
   ·rw [show decide ((k:Int)>=(b.length:Int))=false by simp;omega,u6 h2];rw [e9Q h2] at hget;injection hget with hget;simp only [f1D,e9P,t6 htl];rw [hget,show decide (a[k].a8>=b[k].a8) = !decide (b[k].a8>a[k].a8) by rw [Bool.eq_iff_iff];simp];cases decide (b[k].a8>a[k].a8)<;>rfl
   ·rw [show decide ((k:Int)>=(b.length:Int))=true by simp;omega];rw [f0l (by omega)] at hget;injection hget with hget;simp only [f1D,f1C,e9P,t6 htl];rw [hget];rfl
  ·have h2:k<b.length:=by omega
   rw [show decide ((k:Int)>=(a.length:Int))=true by simp;omega,u6 h2];rw [f0l (by omega),e9Q h2] at hget;injection hget with hget;simp only [f1C,e9P,t6 htl];rw [hget];rfl) (by
  show a5K a b (E7 a b) ((E7 a b).length:Int)=_
  unfold a5K;rw [show decide (((E7 a b).length:Int)<(a.length:Int))=false by simp;omega,show decide (((E7 a b).length:Int)<(b.length:Int))=false by simp;omega];rfl)]
 simp only [e9P,l8.go,c1F,b34 hok]
theorem e34{a:p6}(h:NI a.n){m:j9}(hm:MI m)(hk:m.a6=2)(ho:a.out.length<=900):b5w a m=some (X3 a (a4K a.n m)):=by
 have hkd:=hm.kd.two hk;have hs:=hm.sl;have hf:=hm.fr;have hright:=c4z h hm hk;unfold b5w;unfold a4K at hright⊢;by_cases p1:a.n.f0=1
 ·rw [show (a.n.f0 != 1)=false by simp [p1],f0t] at hright;rw [show (a.n.f0 != 1)=false by simp [p1],f0t];cases hb:m.a8 != a.n.a8
  ·rw [hb] at hright;simp only [f1D] at hright⊢;have hl:a.n.c9.length=3/\Own a.n:=by
    rcases h.ld with q|q|q|q
    ·omega
    ·exact ⟨q.2.2.1,q.2.1⟩
    all_goals exact absurd q.1 (by omega)
   obtain ⟨f,hff⟩:∃f:Nat,m.c9=(f:Int):=⟨m.c9.toNat,by omega⟩
   have hvo:(e9R m.g8.toNat v0++m.a0).length<=40/\∀v∈e9R m.g8.toNat v0++m.a0,VI v:=⟨by simp;omega,fun v hv=>(e9S.1 hv).elim (fun q=>by rw [(f0s.1 q).2];exact .inl rfl) (hkd.1.2 v)⟩
   obtain ⟨c,c1,c2⟩:=c66 (l:=a.n.c9.set (f:Int).toNat true) (b4H (by simp;omega));rw [hff] at hright;rw [hff,u6 (show f<a.n.c9.length by omega),e9P,t6 (by omega),t6 (by simp;omega),show (⟨0,⟨false,⟨0,0⟩,⟨[],[],0,0⟩⟩⟩:m6)=v0 from rfl,d8k ⟨hl.2.bl,hl.2.bs⟩ hvo,e9P,c1,e9P,c2];cases htw:U3 (a.n.c9.set (f:Int).toNat true)
   ·simp only [f1D,X3];rw [f0x]
   ·rw [htw] at hright;simp only [f1C] at hright⊢;have hni:NI ⟨a.n.Id,a.n.Acc,a.n.a7,a.n.Seq,2,a.n.a8,[],E7 a.n.i4 (e9R m.g8.toNat v0++m.a0),a.n.c8,a.n.a0,a.n.j3,a.n.i7,a.n.b8,a.n.d6⟩:=by
     rcases h.ld with q|q|q|q
     ·omega
     ·exact ⟨h.id,h.pr,h.vl,h.vs,h.kl,h.ks,h.sq,h.ql,h.qs,.inr (.inr (.inl ⟨rfl,⟨q.2.1.b1,q.2.1.b2,q.2.1.mod,q.2.1.pr,by have:=a9b a.n.i4 (e9R m.g8.toNat v0++m.a0);have:=hl.2.bl;have:=hvo.1;simp only at *;omega,fun v hv=>(b8g hv).elim (hl.2.bs v) (hvo.2 v)⟩,rfl,q.2.2.2.2.1,q.2.2.2.2.2⟩)),h.wt⟩
     all_goals exact absurd q.1 (by omega)
    rw [b2J (a:=⟨⟨a.n.Id,a.n.Acc,a.n.a7,a.n.Seq,2,a.n.a8,[],E7 a.n.i4 (e9R m.g8.toNat v0++m.a0),a.n.c8,a.n.a0,a.n.j3,a.n.i7,a.n.b8,a.n.d6⟩,a.out,a.told⟩) hni ho];rfl
  ·simp only [f1C,f1D];rw [a7I]
 ·rw [show (a.n.f0 != 1)=true by simpa using p1];simp only [f1C,f1r];rw [a7I]
theorem e7p{a:p6}(h:NI a.n){m:j9}(hm:MI m)(ho:a.out.length<=800)(ht:a.told.length<=800):b4s a m=some (a2o a (a5j a.n m)):=by
 have hf:=hm.fr;unfold b4s a5j;by_cases p3:a.n.f0=3
 ·rw [show (a.n.f0 != 3)=false by simp [p3],f0t];cases hb:m.a8 != a.n.a8
  ·simp only [f1D,f0t];cases hs:m.g8 != (a.n.a7.length:Int)
   ·simp only [f1D];have hsl:m.g8=(a.n.a7.length:Int):=by simpa using hs
    obtain ⟨q1,q2,q3,q4,q5,q6,q7⟩:a.n.f0=3/\Own a.n/\a.n.c9=[]/\z6 a.n.c8=true/\a.n.a0.length=3/\a.n.a0[a.n.Id.toNat]?=some true/\a.n.a7.length<40:=by
     rcases h.ld with q|q|q|q
     ·omega
     ·omega
     ·omega
     ·exact q
    obtain ⟨f,hff⟩:∃f:Nat,m.c9=(f:Int):=⟨m.c9.toNat,by omega⟩
    obtain ⟨c,c1,c2⟩:=c66 (l:=a.n.a0.set (f:Int).toNat true) (b4H (by simp;omega));rw [hff,u6 (show f<a.n.a0.length by omega),e9P,c1,e9P,c2];cases htw:U3 (a.n.a0.set (f:Int).toNat true)
    ·simp only [f1D,a2o,f0x]
    ·simp only [f1C];have hid:=h.id;have hni:NI ⟨a.n.Id,a.n.Acc,a.n.a7,a.n.Seq,a.n.f0,a.n.a8,a.n.c9,a.n.i4,a.n.c8,a.n.a0.set (f:Int).toNat true,a.n.j3,a.n.i7,a.n.b8,a.n.d6⟩:=
      ⟨h.id,h.pr,h.vl,h.vs,h.kl,h.ks,h.sq,h.ql,h.qs,.inr (.inr (.inr ⟨q1,q2,q3,q4,by simpa using q5,by
       show (a.n.a0.set f true)[a.n.Id.toNat]?=some true
       rw [List.getElem?_set];split
       ·rw [if_pos (by omega)]
       ·exact q6,q7⟩)),h.wt⟩
     have l1:=a0g a.n.Id ⟨5,0,0,0,m.g8,a.n.c8,[]⟩;rw [a5b (by exact hid) (by simp only;omega),e9P];simp only;rw [c4x (a:=⟨⟨a.n.Id,a.n.Acc,a.n.a7,a.n.Seq,a.n.f0,a.n.a8,a.n.c9,a.n.i4,a.n.c8,a.n.a0.set (f:Int).toNat true,a.n.j3,a.n.i7,a.n.b8,a.n.d6⟩,a.out++N5 a.n.Id ⟨5,0,0,0,m.g8,a.n.c8,[]⟩,a.told⟩) hni q7 q4 (by simp only [e94];omega) (by simp only;omega),e9P,hsl];simp only [a2o,e95]
   ·simp only [f1C];rw [b7W]
  ·simp only [f1C,f1D,f1r];rw [b7W]
 ·rw [show (a.n.f0 != 3)=true by simpa using p3];simp only [f1C,f1r];rw [b7W]
theorem d9r{a:p6}(h:NI a.n){m:j9}(hm:MI m)(hk:m.a6=5)(ho:a.out.length<=800)(ht:a.told.length<=800)(hto:m.To=a.n.Id):b7N a m=some (a2o a (a43 a.n m)):=by
 have hkd:=hm.kd.five hk;unfold b7N a43;cases h1:decide (m.g8<(a.n.a7.length:Int))
 ·cases h2:decide (m.g8>(a.n.a7.length:Int))
  ·simp only [f1D];have hl:a.n.a7.length<40:=by simp at h1 h2;omega
   rw [c4x h hl hkd.2 (by omega) (by omega)];rfl
  ·simp only [f1D,f1C];rw [a7H (by omega)];simp only [e9P,a2o,a0c,hto,f0x]
 ·simp only [f1C];rw [b7W]
theorem e3C{a:p6}(h:NI a.n){m:j9}(hm:MI m)(hk:m.a6=7)(ho:a.out.length<=800):b7y a m=some (X3 a (a4J a.n m)):=by
 have hql:=h.ql;obtain ⟨e1,e2⟩:z6 m.g9=true/\m.g9.i8=false:=by
  rcases hm.kd with q|q|q|q|q|q|q
  ·omega
  ·omega
  ·omega
  ·omega
  ·omega
  ·exact ⟨q.2.2.2.1,q.2.2.2.2.1⟩
  ·omega
 unfold b7y a4J;rw [show decide ((a.n.d6.length:Int)>=4)=decide (4<=a.n.d6.length) by simp;omega,e7t (h.ok.2.2.1.fits (by decide))];cases a.n.f0==0
 ·simp only [f1D,f0t];cases h4:decide (4<=a.n.d6.length)
  ·simp only [f1D,f0t,e9P];cases N3 a.n.a7 m.g9.a5
   ·simp only [f1D];have hni:NI {a.n with d6:=a.n.d6++[m.g9]}:=h.queue (by simp at h4⊢;omega) (by
     intro e he;rcases e9S.1 he with q|q
     ·exact h.qs e q
     ·rw [e92.1 q];exact ⟨e1,e2⟩)
    rw [t6 (by omega),b2J (a:=⟨{a.n with d6:=a.n.d6++[m.g9]},a.out,a.told⟩) hni (by simp only;omega)];rfl
   ·simp only [f1C];rw [a7I]
  ·simp only [f1C,f1r];rw [a7I]
 ·simp only [f1C,f1r];rw [a7I]
theorem b7H{n:j8}(h:NI n):a8k n=some ⟨n,[],[]⟩:=by
 unfold a8k;rw [b7k h.ok];rfl
theorem d8h{l:List j9}(hl:l.length<=1000)(h:∀m∈l,MI m):A0 152 F9 l:=R9 (by omega) fun m hm=>(h m hm).ok
theorem c0g{a:p6}(h:NI a.n)(ho:a.out.length<=1000)(hm:∀m∈a.out,MI m)(ht:a.told.length<=1000):a1q a=some (a.n,a.out,a.told,a):=by
 unfold a1q;rw [b7k h.ok,e9P,d2z (d8h ho hm),e9P,c5V (by omega)];rfl
theorem c0h{n:j8}{x:j8×List j9}(h:R7 n x)(hl:x.2.length<=1000):a1q ⟨x.1,x.2,[]⟩=some (x.1,x.2,[],⟨x.1,x.2,[]⟩):=c0g h.ni hl h.ms (by simp)
theorem c2L(l:List q9)(prog:List r9):∀(f k:Nat) (regs:List Int) (rs:List s1) (ps:List p9),(a0S l prog f k regs rs ps).Code≠3
 | 0,_,_,_,_=>by simp [a0S]
 | f+1,k,regs,rs,ps=>by
  unfold a0S;cases prog[k]? with
  | none=>simp
  | some i=>
   simp only;cases i.a6==6
   ·cases i.a6==7
    ·cases (G0 l i regs rs ps).1.all H0
     ·simp
     ·exact c2L l prog f _ _ _ _
    ·simp
   ·exact c2L l prog f _ _ _ _
theorem e5y{l:List q9}(hb:F7 l=true)(p:List r9):((C5 l p).Code==3) = !D6 p:=by
 unfold C5;rw [hb,e99];cases D6 p
 ·rfl
 ·simpa using c2L l p _ _ _ _ _
theorem e3M{n:j8}(h:NI n):b5p n=some (A2 n.a7).1:=by
 unfold b5p;rw [a6V h.ok,e9P,a0l.2 h];simp only [e9V,f1D];rw [e5W (okEntries.f h.ok.2.2.1),h.list];rfl
theorem c74{prog:List r9}(h:A0 32 okT prog):u5 prog:=h.fits (by decide)
theorem e1F{n:j8}(h:NI n){prog:List r9}(hp:A0 32 okT prog):b5o n prog=some ((N4 n prog).1,(N4 n prog).2,[]):=by
 have hf:=c74 hp;have hs:=h.sq;have hr:=b1S h hf;have hlen:=c1n n prog;have e0:=c0g (a:=⟨n,[],[]⟩) h (by simp) (by simp) (by simp);rw [a4v] at hr hlen;unfold b5o;rw [a6V h.ok,e9P,a0l.2 h,b7H h,a4v,b7a hf,e3M h];simp only [e9V,f1D,e9P];have hc:((C5 (a1z n) prog).Code==3) = !D6 prog:=e5y (b8r h) prog;rw [show (A2 n.a7).1.i0=a1z n from rfl,d9E (a8X (b8r h)) hf];unfold M0 at hr hlen⊢;rw [hc] at hr hlen⊢;cases hb:n.j3
 ·cases hq:n.Seq==1000
  ·cases hpo:D6 prog
   ·simp only [f0a,f1C,f1D,e0,e9P];rfl
   ·rw [hb,hq,hpo] at hr hlen;have hca:M0 n prog=true:=by unfold M0;rw [hc,hb,hq,hpo];rfl
    have hn:=h.asked hf hca;simp only [e9V,f0a,Bool.or_false,f1C,f1D,e9P] at hr hlen⊢;rw [B9 (by omega) (by omega)];have ha:(⟨⟨n.Id,n.Acc,n.a7,n.Seq+1,n.f0,n.a8,n.c9,n.i4,n.c8,n.a0,true,prog,⟨false,⟨n.Id,n.Seq+1⟩,C5 (a1z n) prog⟩,n.d6⟩,[],[]⟩:p6)=⟨V0 n prog,[],[]⟩:=rfl;have hj:∀x:j8×List j9,R7 n x->x.2.length<=3->b4r ⟨x.1,x.2,[]⟩=some (x.1,x.2,[]):=by
     intro x hx hl;unfold b4r;rw [c0h hx (by omega)];rfl
    rw [ha];cases h2:n.f0==2
    ·rw [h2] at hr hlen;cases h0:n.f0==0
     ·rw [h0] at hr hlen;simp only [f1D,e9P,l8.go] at hr hlen⊢;exact hj _ hr hlen
     ·rw [h0] at hr hlen;simp only [f1D,f1C] at hr hlen⊢;rw [a5b (a:=⟨V0 n prog,[],[]⟩) (by exact h.id) (by simp)];simp only [e9P,l8.go,f0I];exact hj (V0 n prog,_) hr hlen
    ·rw [h2] at hr hlen;simp only [f1C] at hr hlen⊢;rw [b2J (a:=⟨V0 n prog,[],[]⟩) hn (by simp)];simp only [e9P,l8.go,X3,f0I];exact hj _ hr hlen
  ·simp only [f1C,f1D,e0,e9P];rfl
 ·simp only [f1C,e0,e9P];rfl
theorem e0B{b who:Int}(hb:0<=b/\b<=3000)(hw:0<=who/\who<=2):b7R b who=some (M3 b who):=by
 have e:∀i:Int,1<=i->i<=4->a1R who (b+i)=some (bif decide (b+i<=3000) then (bif e9Z (b+i) 3==who then .ret (b+i) else .nxt (b+(i+1))) else .brk ()):=by
  intro i h1 h3;unfold a1R;rw [show decide (b+i>0)=true by simp;omega,c4w,B9 (by omega) (by omega),Int.add_assoc];cases hd:decide (b+i<=3000)
  ·rfl
  ·rw [show X2 (b+i)=e9Z (b+i) 3 by
    unfold X2;rw [H4.2 ⟨by omega,by simpa using hd⟩];rfl]
   simp only [f1C,e9P];cases e9Z (b+i) 3==who<;>rfl
 have hmod:∀i:Int,1<=i->e9Z (b+i) 3=(b+i) % 3:=fun i hi=>Int.tmod_eq_emod_of_nonneg (by omega)
 have e1:=e 1 (by omega) (by omega);have e2:=e 2 (by omega) (by omega);have e3:=e 3 (by omega) (by omega);have m1:=hmod 1 (by omega);have m2:=hmod 2 (by omega);have m3:=hmod 3 (by omega);unfold b7R M3;rw [show decide (b<0)=false by simp;omega,M2,show q8 who 0 2=true from H4.2 hw,B9 (by omega) (by omega)];simp only [f1D,e9P,e9V];cases q1:decide (b+1<=3000)
 ·rw [q1] at e1;rw [D7 (body:=fun s:Int=>a1R who s) e1,show decide (b+2<=3000)=false by simp at q1⊢;omega,show decide (b+3<=3000)=false by simp at q1⊢;omega];rfl
 rw [q1] at e1;cases t1:e9Z (b+1) 3==who;case true=>rw [t1] at e1;rw [Z4 (body:=fun s:Int=>a1R who s) e1];rfl
 rw [t1] at e1;rw [F4 (body:=fun s:Int=>a1R who s) e1];cases q2:decide (b+2<=3000)
 ·rw [show (1:Int)+1=2 from rfl];rw [q2] at e2;rw [D7 (body:=fun s:Int=>a1R who s) e2,show decide (b+3<=3000)=false by simp at q2⊢;omega];rfl
 rw [q2] at e2;rw [show (1:Int)+1=2 from rfl];cases t2:e9Z (b+2) 3==who;case true=>rw [t2] at e2;rw [Z4 (body:=fun s:Int=>a1R who s) e2];rfl
 rw [t2] at e2;rw [F4 (body:=fun s:Int=>a1R who s) e2,show (2:Int)+1=3 from rfl];cases q3:decide (b+3<=3000)
 ·rw [q3] at e3;rw [D7 (body:=fun s:Int=>a1R who s) e3];rfl
 rw [q3] at e3;have t3:(e9Z (b+3) 3==who)=true:=by
  simp only [beq_eq_false_iff_ne,beq_iff_eq] at t1 t2⊢;omega
 rw [t3] at e3;rw [Z4 (body:=fun s:Int=>a1R who s) e3,t3];rfl
theorem e8L{n:j8}(h:NI n):b6C n=some (a1T n):=by
 have hr:=b0N h;have hl:=b9l n;have hj:∀x:j8×List j9,R7 n x->x.2.length<=3->b0M ⟨x.1,x.2,[]⟩=some x:=by
  intro x hx hl;unfold b0M;rw [c0h hx (by omega)];rfl
 unfold b6C;unfold a1T at hr hl⊢;rw [a6V h.ok,e9P,a0l.2 h,b7H h,e0B h.pr h.id];simp only [e9V,f1D,e9P];cases hd:decide (M3 n.Acc.i5 n.Id<0)
 ·rw [hd] at hr hl;simp only [decide_eq_false_iff_not] at hd;obtain ⟨c1,c2⟩:=h.accOk;rcases c1T h.pr h.id with q|⟨q1,q2,q3,q4⟩
  ·omega
  ·have hpr:=h.pr;rw [show decide (M3 n.Acc.i5 n.Id>=0)=true by simp;omega];simp only [f1C,f1D,c2W,e9P] at hr hl⊢;rw [b5V (a:=(a7b n).Acc) c1 c2,show J4 (a7b n).Acc (M3 n.Acc.i5 n.Id)=some ⟨M3 n.Acc.i5 n.Id,n.Acc.a0⟩ from b5N (a:=n.Acc) (by omega) q3 (by omega),e9P,c6x (by exact h.id),e9P];simp only;have ha:=a5b (a:=⟨⟨n.Id,⟨M3 n.Acc.i5 n.Id,n.Acc.a0⟩,n.a7,n.Seq,1,M3 n.Acc.i5 n.Id,a68 n.Id,n.Acc.a0,zE,[],n.j3,n.i7,n.b8,n.d6⟩,[],[]⟩) h.id (by simp) ⟨1,0,0,M3 n.Acc.i5 n.Id,(n.a7.length:Int),zE,[]⟩;refine (congrArg (fun x:Option p6=>((x.bind fun all=>some (l8.brk all)).bind fun x:l8 (j8×List j9) p6=>x.go some fun j=>b0M j)) ha).trans ?_;simp only [e9P,l8.go,f0I];have e:=hj _ hr hl;exact e
 ·rw [hd] at hr hl;rw [show decide (M3 n.Acc.i5 n.Id>=0)=false by simp at hd⊢;omega];simp only [f1D,f1C,e9P,l8.go] at hr hl⊢;exact hj (n,[]) hr hl
theorem d7q{n:j8}(h:NI n):b8s n=some ((a0W n).1,(a0W n).2,[]):=by
 have hr:=b7S h;have hl:=c2l n;have hj:∀x:j8×List j9,R7 n x->x.2.length<=6->b4x ⟨x.1,x.2,[]⟩=some (x.1,x.2,[]):=by
  intro x hx hl;unfold b4x;rw [c0h hx (by omega)];rfl
 have l0:=a0g n.Id ⟨8,0,0,0,(n.a7.length:Int),zE,[]⟩;unfold b8s;unfold a0W at hr hl⊢;rw [a6V h.ok,e9P,a0l.2 h,b7H h];simp only [e9V,f1D,e9P];rw [a5b (a:=⟨n,[],[]⟩) (by exact h.id) (by simp)];simp only [e9P,f0I];have l1:(N5 n.Id ⟨8,0,0,0,(n.a7.length:Int),⟨false,⟨0,0⟩,⟨[],[],0,0⟩⟩,[]⟩).length<=3:=l0;cases h1:n.f0==1
 ·cases h2:n.f0==2
  ·cases h3:n.f0==3
   ·cases hbz:n.j3
    ·rw [h1,h2,h3,hbz] at hr hl;simp only [f1D,e9P,l8.go] at hr hl⊢;have e:=hj _ hr hl;exact e
    ·rw [h1,h2,h3,hbz] at hr hl;simp only [f1D,f1C] at hr hl⊢;rw [a5b (by exact h.id) (by simp only;omega)];simp only [e9P,l8.go];have e:=hj _ hr hl;exact e
   ·rw [h1,h2,h3] at hr hl;simp only [f1D,f1C] at hr hl⊢;rw [a5b (by exact h.id) (by simp only;omega)];simp only [e9P,l8.go];have e:=hj _ hr hl;exact e
  ·rw [h1,h2] at hr hl;simp only [f1D,f1C] at hr hl⊢;rw [b2J (by exact h) (by simp only;omega)];simp only [e9P,l8.go];have e:=hj _ hr hl;exact e
 ·rw [h1] at hr hl;simp only [f1C] at hr hl⊢;rw [a5b (by exact h.id) (by simp only;omega)];simp only [e9P,l8.go];have e:=hj _ hr hl;exact e
theorem e61{n:j8}(h:NI n):b4Z n=some (a4G n):=by
 unfold b4Z;rw [a6V h.ok,e9P,a0l.2 h];simp only [e9V,f1D];rw [show (⟨n.Id,n.Acc,n.a7,n.Seq,0,0,[],[],⟨false,⟨0,0⟩,⟨[],[],0,0⟩⟩,[],false,[],⟨false,⟨0,0⟩,⟨[],[],0,0⟩⟩,[]⟩:j8)=a4G n from rfl,b7k h.fall.ok];rfl
theorem c4W{n:j8}(h:NI n){m:j9}(hto:m.To=n.Id):∀(d k:Nat) (o:List j9),n.a7.length-k=d->o.length<=k->s2 (fun s:Int×p6=>a5q m s.1 s.2) ((k:Int),⟨n,o,[]⟩)=some (.brk ⟨n,o++((e91 d).map fun j=>a1E n m (k+j)).flatten,[]⟩)
 | 0,k,o,hd,ho=>by
  have hkl:=h.kl;refine (D7 (body:=fun s:Int×p6=>a5q m s.1 s.2) (b:=⟨n,o,[]⟩) ?_).trans (by simp);unfold a5q;rw [show decide ((k:Int)<(n.a7.length:Int))=false by simp;omega];rfl
 | d+1,k,o,hd,ho=>by
  have hkl:=h.kl;have hlt:k<n.a7.length:=by omega
  have hb:a5q m (k:Int) ⟨n,o,[]⟩=some (.nxt (((k+1:Nat):Int),⟨n,o++a1E n m k,[]⟩)):=by
   unfold a5q;rw [z0 _ k hlt,f1C];simp only;rw [u6 hlt,e9P,a7H (by simp only;omega),b4l m hlt,G1 (h.ok.2.2.1.fits (by decide)) hlt];simp only [e9P,a0c,hto]
  rw [F4 (body:=fun s:Int×p6=>a5q m s.1 s.2) (s:=((k:Int),⟨n,o,[]⟩)) hb,c4W h hto d (k+1) _ (by omega) (by rw [b4l m hlt];simp;omega)];rw [List.range_succ_eq_map,f0m,f0g,e95,f1o];simp only [f04,Function.comp_def,Nat.succ_eq_add_one,Nat.add_assoc,Nat.add_comm 1]
theorem e8s{n:j8}(h:NI n){m:j9}(hm:MI m)(hto:m.To=n.Id):b6d n m=some (a1B n m):=by
 have hr:=b00 h hm;have hl:=c3n h m;have hj:∀x:j8×List j9×List o8,a6c n x->x.2.1.length<=60->x.2.2.length<=1->b7L ⟨x.1,x.2.1,x.2.2⟩=some x:=by
  intro x hx h1 h2;unfold b7L;rw [c0g hx.ni (by simp only;omega) hx.ms (by simp only;omega)];rfl
 have hz:NI (⟨n,[],[]⟩:p6).n:=h;unfold b6d;unfold a1B at hr hl⊢;rw [a6V h.ok,e9P,a0l.2 h,b7H h,c5i hm.ok,c27.2 hm,show (m.To != n.Id)=false by simpa using hto];simp only [e9V,f1D,e9P];by_cases k1:m.a6=1
 ·rw [show (m.a6==1)=true by simpa using k1] at hr hl⊢;simp only [f1C] at hr hl⊢;rw [e1w (a:=⟨n,[],[]⟩) h hm (by simp) hto];have e:=hj _ hr hl.1 hl.2;exact e
 rw [show (m.a6==1)=false by simpa using k1] at hr hl⊢;by_cases k2:m.a6=2
 ·rw [show (m.a6==2)=true by simpa using k2] at hr hl⊢;simp only [f1C,f1D] at hr hl⊢;rw [e34 (a:=⟨n,[],[]⟩) h hm k2 (by simp)];have e:=hj _ hr hl.1 hl.2;exact e
 rw [show (m.a6==2)=false by simpa using k2] at hr hl⊢;by_cases k3:m.a6=3
 ·rw [show (m.a6==3)=true by simpa using k3] at hr hl⊢;simp only [f1C,f1D] at hr hl⊢;rw [d65 (a:=⟨n,[],[]⟩) h hm (by simp) hto];have e:=hj _ hr hl.1 hl.2;exact e
 rw [show (m.a6==3)=false by simpa using k3] at hr hl⊢;by_cases k4:m.a6=4
 ·rw [show (m.a6==4)=true by simpa using k4] at hr hl⊢;simp only [f1C,f1D] at hr hl⊢;rw [e7p (a:=⟨n,[],[]⟩) h hm (by simp) (by simp)];have e:=hj _ hr hl.1 hl.2;exact e
 rw [show (m.a6==4)=false by simpa using k4] at hr hl⊢;by_cases k5:m.a6=5
 ·rw [show (m.a6==5)=true by simpa using k5] at hr hl⊢;simp only [f1C,f1D] at hr hl⊢;rw [d9r (a:=⟨n,[],[]⟩) h hm k5 (by simp) (by simp) hto];have e:=hj _ hr hl.1 hl.2;exact e
 rw [show (m.a6==5)=false by simpa using k5] at hr hl⊢;by_cases k6:m.a6=6
 ·rw [show (m.a6==6)=true by simpa using k6] at hr hl⊢;obtain ⟨c1,c2⟩:=h.accOk;simp only [f1C,f1D] at hr hl⊢;rw [b5V c1 c2];cases hp:J4 n.Acc m.a8
  ·rw [hp] at hr;simp only [e9P,b39,l8.go];have e:=hj _ hr hl.1 hl.2;exact e
  ·rw [hp] at hr;simp only [e9P,b39,l8.go];have e:=hj _ hr hl.1 hl.2;exact e
 rw [show (m.a6==6)=false by simpa using k6] at hr hl⊢;by_cases k7:m.a6=7
 ·rw [show (m.a6==7)=true by simpa using k7] at hr hl⊢;simp only [f1C,f1D] at hr hl⊢;rw [e3C (a:=⟨n,[],[]⟩) h hm k7 (by simp)];have e:=hj _ hr hl.1 hl.2;exact e
 rw [show (m.a6==7)=false by simpa using k7] at hr hl⊢;cases k8:m.a6==8
 ·rw [k8] at hr hl;simp only [f1D,e9P,l8.go] at hr hl⊢;have e:=hj _ hr hl.1 hl.2;exact e
 ·rw [k8] at hr hl;have hs:=hm.sl;obtain ⟨k,hk⟩:∃k:Nat,m.g8=(k:Int):=⟨m.g8.toNat,by omega⟩
  simp only [f1D,f1C] at hr hl⊢;unfold a50 at hr hl⊢;rw [hk] at hr hl⊢;rw [f0k] at hr hl⊢;rw [c4W h hto (n.a7.length-k) k [] rfl (by simp)];have e:=hj _ hr hl.1 hl.2;exact e
theorem c3w{l:List j9}(hl:u5 l):∀(d k:Nat) (net:List j9),net.length<=40->l.length-k=d->s2 (fun s:(List j9)×Int=>a3y l s.1 s.2) (net,(k:Int))=some (.brk (net++(l.drop k).take (40-net.length)))
 | 0,k,net,hn,hd=>by
  refine (D7 (body:=fun s:(List j9)×Int=>a3y l s.1 s.2) (b:=net) ?_).trans (by rw [e97 (by omega)];simp);unfold a3y;rw [show decide ((k:Int)<(l.length:Int))=false by simp;omega];rfl
 | d+1,k,net,hn,hd=>by
  have hlt:k<l.length:=by omega
  rw [f0e hlt];by_cases h40:net.length<40
  ·rw [F4 (body:=fun s:(List j9)×Int=>a3y l s.1 s.2) (t:=(net++[l[k]],((k+1:Nat):Int))) (by
    unfold a3y b5x;rw [z0 _ k hlt,f1C,u6 hlt,e9P,show decide ((net.length:Int)<40)=true by simp;omega,f1C,t6 (by simp only;omega),G1 hl hlt];rfl),c3w hl d (k+1) _ (by simp;omega) (by omega),e94,f0O,show 40-net.length=(40-(net.length+1))+1 by omega,f1e,e95]
   rfl
  ·rw [F4 (body:=fun s:(List j9)×Int=>a3y l s.1 s.2) (t:=(net,((k+1:Nat):Int))) (by
    unfold a3y b5x;rw [z0 _ k hlt,f1C,u6 hlt,e9P,show decide ((net.length:Int)<40)=false by simp;omega,f1D,G1 hl hlt];rfl),c3w hl d (k+1) _ hn (by omega),show 40-net.length=0 by omega,f0v,f0v]
theorem b8D{l:List o8}(hl:u5 l):∀(d k:Nat) (net:List o8),net.length<=60->l.length-k=d->s2 (fun s:(List o8)×Int=>a22 l s.1 s.2) (net,(k:Int))=some (.brk (net++(l.drop k).take (60-net.length)))
 | 0,k,net,hn,hd=>by
  refine (D7 (body:=fun s:(List o8)×Int=>a22 l s.1 s.2) (b:=net) ?_).trans (by rw [e97 (by omega)];simp);unfold a22;rw [show decide ((k:Int)<(l.length:Int))=false by simp;omega];rfl
 | d+1,k,net,hn,hd=>by
  have hlt:k<l.length:=by omega
  rw [f0e hlt];by_cases h40:net.length<60
  ·rw [F4 (body:=fun s:(List o8)×Int=>a22 l s.1 s.2) (t:=(net++[l[k]],((k+1:Nat):Int))) (by
    unfold a22 b7m;rw [z0 _ k hlt,f1C,u6 hlt,e9P,show decide ((net.length:Int)<60)=true by simp;omega,f1C,t6 (by simp only;omega),G1 hl hlt];rfl),b8D hl d (k+1) _ (by simp;omega) (by omega),e94,f0O,show 60-net.length=(60-(net.length+1))+1 by omega,f1e,e95]
   rfl
  ·rw [F4 (body:=fun s:(List o8)×Int=>a22 l s.1 s.2) (t:=(net,((k+1:Nat):Int))) (by
    unfold a22 b7m;rw [z0 _ k hlt,f1C,u6 hlt,e9P,show decide ((net.length:Int)<60)=false by simp;omega,f1D,G1 hl hlt];rfl),b8D hl d (k+1) _ hn (by omega),show 60-net.length=0 by omega,f0v,f0v]
theorem a8R{w:m8}(hn:w.b7.length=3)(d6S:w.d8.length<=40)(htl:w.Told.length<=60){n:j8}(hid:0<=n.Id/\n.Id<=2){l:List j9}(hl:l.length<=100){t:List o8}(ht:t.length<=100):a36 w n l t=some (a6N (a1l (Z7 w n.Id n) l) t):=by
 obtain ⟨k,hk⟩:∃k:Nat,n.Id=(k:Int):=⟨n.Id.toNat,by omega⟩
 unfold a36;rw [hk,u6 (show k<w.b7.length by omega),e9P];rw [show s2 (fun s:(List j9)×Int=>a3y l s.1 s.2) (w.d8,0)=_ from c3w (by unfold u5;omega) l.length 0 w.d8 d6S (by omega)];simp only [e9P,l8.go,b8U];rw [show s2 (fun s:(List o8)×Int=>a22 t s.1 s.2) (w.Told,0)=_ from b8D (by unfold u5;omega) t.length 0 w.Told htl (by omega)];simp only [e9P,l8.go,b9d,f0S,hk];rfl
theorem d8O{l:List j9}{k:Nat}(hk:k<l.length)(hl:l.length<=100):b0m l (k:Int)=some (l.take k++l.drop (k+1)):=by
 unfold b0m;rw [B9 (by omega) (by omega)];have e1:((k:Int)+1).toNat=k+1:=by omega
 have l1:((l.drop 0).take ((k:Int).toNat-0)).length<=100:=by simp;omega
 have l2:((l.drop (k+1)).take (l.length-(k+1))).length<=100:=by simp;omega
 rw [t6 (by omega),t6 (by simp only [f1x];omega),t6 (by omega),e1,t6 (by simp only [e94,f1x];omega)];rw [c3s];simp
theorem d4M(n:j8)(p:List r9):(M0 n p=true/\(N4 n p).1.Seq=n.Seq+1/\(N4 n p).1.b8.a5=⟨n.Id,n.Seq+1⟩)\/(M0 n p=false/\N4 n p=(n,[])):=by
 cases hc:M0 n p
 ·right
  rw [a4v,hc];exact ⟨rfl,rfl⟩
 ·left
  refine ⟨rfl,?_,?_⟩
  ·rw [a4v,hc];simp only [f1C];cases n.f0==2
   ·rfl
   ·exact (c2X (V0 n p)).seq
  ·rw [c0m hc];rfl
def onN(w:m8)(e:v5):m8:=
 bif e.a6==1 then a5F w e.A e.i7 else
 bif e.a6==5 then a1l (Z7 w e.A (a1T (P9 w e.A)).1) (a1T (P9 w e.A)).2 else
 bif e.a6==6 then a1l (Z7 w e.A (a0W (P9 w e.A)).1) (a0W (P9 w e.A)).2 else
 bif e.a6==7 then Z7 w e.A (a4G (P9 w e.A)) else w
theorem c0T(w:m8)(e:v5):L7 w e=bif e.a6==2||(e.a6==3||e.a6==4) then a04 w e else bif q8 e.A 0 2 then onN w e else w:=by
 unfold L7 onN;cases e.a6==2||(e.a6==3||e.a6==4)
 ·cases q8 e.A 0 2<;>rfl
 ·rfl
theorem e7w{w:m8}(h:WI w){e:v5}(he:O5 e)(hi:q8 e.A 0 2=true):a5T w e=some (onN w e):=by
 rw [H4] at hi;obtain ⟨i,hA⟩:∃i:Nat,e.A=(i:Int):=⟨e.A.toNat,by omega⟩
 obtain ⟨n,hg,hn,hid,hni,hlt⟩:=a3P h (i:=i) (by omega);have hal:=h.al;unfold a5T onN;rw [hA,a6W,hg,e9P,hn];cases e.a6==1
 ·cases e.a6==5
  ·cases e.a6==6
   ·cases e.a6==7
    ·rfl
    ·simp only [f1C,f1D];rw [e61 hni,e9P,a8R h.nl h.ml h.tl (by exact hni.id) (by simp) (by simp),e9P,a2u,c2f];simp only [e9P,l8.go,b5d];rw [show (a4G n).Id=(i:Int) from hid]
   ·simp only [f1C,f1D];have hr:=b7S hni;have hl:=c2l n;rw [d7q hni,e9P];simp only;rw [a8R h.nl h.ml h.tl (by rw [hr.id];exact hni.id) (by omega) (by simp),e9P,a2u,hr.id,hid];rfl
  ·simp only [f1C,f1D];have hr:=b0N hni;have hl:=b9l n;rw [e8L hni,e9P,a8R h.nl h.ml h.tl (by rw [hr.id];exact hni.id) (by omega) (by simp),e9P,a2u,hr.id,hid];rfl
 ·simp only [f1C];unfold a5F;rw [show decide ((w.g7.length:Int)>=60)=decide (60<=w.g7.length) by simp;omega];cases decide (60<=w.g7.length)
  ·simp only [f1D];have hr:=b1S hni (c74 he);have hl:=c1n n e.i7;rw [e1F hni he,e9P];simp only;rw [a8R h.nl h.ml h.tl (by rw [hr.id];exact hni.id) (by omega) (by simp),e9P,a2u,hr.id,hid,hn];rcases d4M n e.i7 with ⟨c1,c2,c3⟩|⟨c1,c2⟩
   ·rw [show ((N4 n e.i7).1.Seq != n.Seq)=true by rw [c2];simp;omega,show decide ((N4 n e.i7).1.Seq>n.Seq)=true by rw [c2];simp;omega];simp only [f1C];rw [t6 (by show (w.g7.length+1)*40<=_;omega)];simp only [e9P,l8.go,b5d];rw [c3,c2,hid];rfl
   ·rw [c2,show (n.Seq != n.Seq)=false by simp,show decide (n.Seq>n.Seq)=false by simp];rfl
  ·rfl
theorem d7r{w:m8}(h:WI w){e:v5}{k:Nat}(hA:e.A=(k:Int))(hk:k<w.d8.length)(hkd:(e.a6==2||(e.a6==3||e.a6==4))=true):a8r w e=some (a04 w e):=by
 have hml:=h.ml;unfold a8r a04;rw [hA,u6 hk,e9P,show decide (0<=(k:Int))=true by simp,f0k,e9Q hk];have hm:=h.ms _ (e9T hk);generalize w.d8[k]=m at hm;have hof:=d8O hk (by omega);have ht:=hm.to;obtain ⟨t,htt⟩:∃t:Nat,m.To=(t:Int):=⟨m.To.toNat,by omega⟩
 simp only [f1C];by_cases k2:e.a6=2
 ·rw [show (e.a6==2)=true by simpa using k2,show (e.a6==4)=false by simp [k2],show (e.a6==3)=false by simp [k2]];simp only [f1C,f1D];have ho:=h.off (k:Int);obtain ⟨n,hg,hn,hid,hni,hlt⟩:=a3P ho (i:=t) (by omega);have hn':P9 w (t:Int)=n:=hn;have hg':w.b7[t]?=some n:=hg;have hr:=b00 hni hm;obtain ⟨l1,l2⟩:=c3n hni m;rw [hof,e9P,htt,a6W,hg',e9P,e8s hni hm (htt.trans hid.symm),e9P,a8R (w:=⟨w.b7,w.d8.take k++w.d8.drop (k+1),w.g7,w.Told⟩) h.nl ho.ml h.tl (by rw [hr.id];exact hni.id) (by omega) (by omega),e9P,hn',hr.id,hid];rfl
 ·rw [show (e.a6==2)=false by simpa using k2];cases k3:e.a6==3
  ·rw [show (e.a6==4)=true by rw [show (e.a6==2)=false by simpa using k2,k3] at hkd;simpa using hkd];simp only [f1C,f1D];obtain ⟨n,hg,hn,hid,hni,hlt⟩:=a3P h (i:=t) (by omega);rw [htt,a6W,hg,e9P,a8R h.nl h.ml h.tl hni.id (by simp) (by simp),e9P,a2u,hid,c0R hg];rfl
  ·rw [show (e.a6==4)=false by simp only [beq_iff_eq] at k3;simp [k3]];simp only [f1C,f1D];rw [hof];rfl
theorem c4N{w:m8}(h:WI w){e:v5}(he:O5 e):b3g w e=some (L7 w e):=by
 have hd:=d0S h he;have hml:=h.ml;have hcp:a18 w=some w:=c1i h.ok;have hcd:a18 (L7 w e)=some (L7 w e):=c1i hd.ok;have hin:m4 ((w.b7.length:Int)-1)=2:=by rw [h.nl];rfl
 have hnode:(e.a6==2||(e.a6==3||e.a6==4))=false->((D2 e.A 0 2).bind fun in_=>bif in_ then (a5T w e).bind fun o=>some (l8.brk o) else some (l8.brk w):Option (l8 m8 m8))=some (.brk (L7 w e)):=by
  intro hk;rw [M2,e9P,c0T,hk];cases hi:q8 e.A 0 2
  ·rfl
  ·simp only [f1C,f1D];rw [e7w h he hi];rfl
 have hmsg:(e.a6==2||(e.a6==3||e.a6==4))=true->((D2 e.A 0 (m4 ((w.d8.length:Int)-1))).bind fun in_=>bif in_ then (a8r w e).bind fun o=>some (l8.brk o) else some (l8.brk w):Option (l8 m8 m8))=some (.brk (L7 w e)):=by
  intro hk;rw [B9 (by omega) (by omega),M2,e9P,c0T,hk];cases hi:q8 e.A 0 ((w.d8.length:Int)-1)
  ·simp only [f1C,f1D];rw [show a04 w e=w by
    unfold a04;cases h0:decide (0<=e.A)
    ·rfl
    ·have:¬(0<=e.A/\e.A<=(w.d8.length:Int)-1):=fun q=>by rw [H4.2 q] at hi;cases hi
     have h0':0<=e.A:=of_decide_eq_true h0;rw [f0l (by omega)];rfl]
  ·rw [H4] at hi;simp only [f1C];rw [d7r h (k:=e.A.toNat) (by omega) (by omega) hk];rfl
 unfold b3g;rw [hcp,e9P,hin];by_cases k1:e.a6=1
 ·have hf:(e.a6==2||(e.a6==3||e.a6==4))=false:=by simp [k1]
  rw [show (e.a6==1)=true by simpa using k1];simp only [f1C];rw [hnode hf];simp only [e9P,l8.go,c2E,hcd]
 rw [show (e.a6==1)=false by simpa using k1];by_cases k5:e.a6=5
 ·have hf:(e.a6==2||(e.a6==3||e.a6==4))=false:=by simp [k5]
  rw [show (e.a6==5)=true by simpa using k5];simp only [f1C,f1D];rw [hnode hf];simp only [e9P,l8.go,c1N,hcd]
 rw [show (e.a6==5)=false by simpa using k5];by_cases k6:e.a6=6
 ·have hf:(e.a6==2||(e.a6==3||e.a6==4))=false:=by simp [k6]
  rw [show (e.a6==6)=true by simpa using k6];simp only [f1C,f1D];rw [hnode hf];simp only [e9P,l8.go,c2e,hcd]
 rw [show (e.a6==6)=false by simpa using k6];simp only [f1D];have fin:∀X:Option (l8 m8 m8),X=some (.brk (L7 w e))->(X.bind fun x=>x.go some fun j=>b38 j)=some (L7 w e):=by
  intro X hX;rw [hX];simp only [e9P,l8.go,b38,hcd]
 refine fin _ ?_;by_cases k7:e.a6=7
 ·rw [show (e.a6==7)=true by simpa using k7];exact hnode (by simp [k7])
 rw [show (e.a6==7)=false by simpa using k7];by_cases k2:e.a6=2
 ·rw [show (e.a6==2)=true by simpa using k2];exact hmsg (by simp [k2])
 by_cases k3:e.a6=3
 ·rw [show (e.a6==2)=false by simpa using k2,show (e.a6==3)=true by simpa using k3];exact hmsg (by simp [k3])
 by_cases k4:e.a6=4
 ·rw [show (e.a6==2)=false by simpa using k2,show (e.a6==3)=false by simpa using k3,show (e.a6==4)=true by simpa using k4];exact hmsg (by simp [k4])
 have e2:(e.a6==2)=false:=by simpa using k2
 have e3:(e.a6==3)=false:=by simpa using k3
 have e4:(e.a6==4)=false:=by simpa using k4
 rw [e2,e3,e4,c0T,e2,e3,e4];have:onN w e=w:=by
  unfold onN;rw [show (e.a6==1)=false by simpa using k1,show (e.a6==5)=false by simpa using k5,show (e.a6==6)=false by simpa using k6,show (e.a6==7)=false by simpa using k7];rfl
 rw [this];cases q8 e.A 0 2<;>rfl
theorem d7g{w:m8}(h:WI w){e:v5}(he:O5 e):b45 w e=some (L7 w e):=by
 unfold b45;rw [d23 h.ok,e9P,b2b.2 h];simp only [e9V,f1D];rw [c4N h he];rfl
theorem c6y{l:List v5}(hl:u5 l)(he:∀e∈l,O5 e):∀(d k:Nat) (w:m8),WI w->l.length-k=d->s2 (fun s:Int×m8=>a5d l s.1 s.2) ((k:Int),w)=some (.brk (a5w w (l.drop k)))
 | 0,k,w,h,hd=>by
  rw [e97 (by omega)];refine D7 (body:=fun s:Int×m8=>a5d l s.1 s.2) (b:=w) ?_;unfold a5d;rw [show decide ((k:Int)<(l.length:Int))=false by simp;omega];rfl
 | d+1,k,w,h,hd=>by
  have hlt:k<l.length:=by omega
  have hek:=he _ (e9T hlt);rw [F4 (body:=fun s:Int×m8=>a5d l s.1 s.2) (t:=(((k+1:Nat):Int),L7 w l[k])) (by
   unfold a5d;rw [z0 _ k hlt,u6 hlt,f1C,e9P,c4N h hek,e9P,G1 hl hlt]),c6y hl he d (k+1) _ (d0S h hek) (by omega),f0e hlt]
  rfl
theorem d1N{w:m8}(h:a0w w){l:List v5}(hl:u5 l)(he:∀e∈l,O5 e):b1a w l=some (bif L5 w&&decide (l.length<=400) then a5w w l else noW):=by
 unfold b1a;rw [d23 h,e9P,show decide ((l.length:Int)>400) = !decide (l.length<=400) from a9m l 400];cases hw:L5 w
 ·rfl
 ·cases decide (l.length<=400)
  ·rfl
  ·simp only [e9V,f1D,Bool.and_self,f1C];rw [c1i h,e9P,show s2 (fun s:Int×m8=>a5d l s.1 s.2) (0,w)=_ from c6y hl he l.length 0 w (b2b.1 hw) rfl];rfl
theorem c0A{r:o6}{m:Nat}(h:Rd r m)(hm:m<=20000000):∃e r',a5Q r b1R=some (e,r',b1R)/\Rd r' (m+300)/\E1 e:=by
 obtain ⟨v,r1,a1,a2,a3,a4⟩:=C7 h (by omega) 8;unfold a5Q;simp only [a1,e9P];cases v==0
 ·obtain ⟨p1,r2,b1,b2,b3,b4⟩:=C7 a2 (by omega) 3;obtain ⟨p2,r3,c1,c2,c3,c4⟩:=C7 b2 (by omega) 6;obtain ⟨pr,r4,d1,d2,d3⟩:=a8u c2 (by omega);obtain ⟨run,e1,e2,e3,e4⟩:=e4j (l:=b1R) (prog:=pr) (by unfold u5 b1R;decide) (by unfold u5;omega);obtain ⟨p3,r5,f1,f2,f3,f4⟩:=C7 d2 (by omega) 40;obtain ⟨k1,k2,k3,k4⟩:=c8u (e2 (by decide)).ok;have hw:C3 p1:=w9 (by omega);have o3:C3 3:=w9 (by decide);have hs:C3 (m4 (1+p2)):=w9 (by rw [B9 (by omega) (by omega)];omega);simp only [f1D,b1,c1,d1,e1,f1,e9P];unfold b9C;cases p3==0
  ·cases p3==1
   ·cases p3==2
    ·exact ⟨_,_,rfl,f2.mono (by omega),⟨hw,hs⟩,k1,k2,k3,k4⟩
    ·exact ⟨_,_,rfl,f2.mono (by omega),⟨hw,hs⟩,k1,k2,k3,o3⟩
   ·exact ⟨_,_,rfl,f2.mono (by omega),⟨hw,hs⟩,k1,k2,k3,k4⟩
  ·obtain ⟨n1,r6,g1,g2,g3⟩:=a1G f2 (by omega) [0,1001] (by decide) (by decide);have o4:C3 n1:=w9 (by simp at g3;omega);simp only [f1C,g1,e9P,l8.go];exact ⟨_,_,rfl,g2.mono (by omega),⟨hw,o4⟩,k1,k2,k3,k4⟩
 ·exact ⟨_,_,rfl,a2.mono (by omega),b9T⟩
theorem c1x{l:List m6}{v:m6}(h:∀x∈l,G2 x)(hv:G2 v):∀x∈l++[v],G2 x:=by
 intro x hx;rcases e9S.1 hx with q|q
 ·exact h x q
 ·rw [e92.1 q];exact hv
theorem d5e{l:List m6}(h:∀x∈l,G2 x){n k:Nat}{v:m6}(hv:G2 v):∀x∈(U7 l n).set k v,G2 x:=by
 intro x hx;rcases f0b hx with q|q
 ·rcases e9S.1 q with q|q
  ·exact h x q
  ·rw [(f0s.1 q).2];exact b5L
 ·rw [q];exact hv
theorem c5a{r:o6}{m:Nat}(h:Rd r m)(hm:m<=10001000):∃a r',b15 r=some (a,r')/\Rd r' (m+3000)/\a.a0.length<=41/\∀v∈a.a0,G2 v:=by
 obtain ⟨n,r1,a1,a2,a3,a4⟩:=C7 h (by omega) 6;obtain ⟨x,hx,hq⟩:=a4d (body:=fun s:o6×(List m6)×Int×Int=>b8o s.1 s.2.1 s.2.2.1 s.2.2.2)
  (fun j s=>s.2.2.1=(j:Int)/\j<=5/\Rd s.1 (m+1+310*(5-j))/\s.2.1.length<=40/\(∀v∈s.2.1,G2 v)/\0<=s.2.2.2/\s.2.2.2<=3000)
  (fun x => ∃ (r':o6) (l:List m6) (p:Int),x=.brk (r',l,p)/\Rd r' (m+2000)/\l.length<=40/\(∀v∈l,G2 v)/\0<=p/\p<=3000) (by
   rintro j ⟨r1,vs,i,p⟩ ⟨q1,q2,q3,q4,q5,q6,q7⟩
   simp only at q1 q3 q4 q5 q6 q7⊢;subst q1;unfold b8o;cases j with
   | zero=>exact ⟨_,rfl,_,_,_,rfl,q3.mono (by omega),q4,q5,q6,q7⟩
   | succ j=>
    obtain ⟨d,r2,b1,b2,b3,b4⟩:=C7 q3 (by omega) 4;obtain ⟨e,r3,c1,c2,c3,c4⟩:=C7 b2 (by omega) 3;obtain ⟨s,r4,d1,d2,d3,d4⟩:=C7 c2 (by omega) 4;obtain ⟨en,r5,e1,e2,e3⟩:=c0A d2 (by omega);have hb:m4 (p+d)=p+d:=B9 (by omega) (by omega);rw [show decide (((j+1:Nat):Int)>0)=true by simp,f1C,b1,e9P,c1,e9P,hb,b1r (show j<1000 by omega)];cases e==0
    ·simp only [f1D,d1,b3j,e1,e9P];rw [t6 trivial,c0b e3,e9P];cases hc:O3 ⟨p,vs⟩ (p+d) s en with
     | none=>exact ⟨_,rfl,j,by omega,rfl,by omega,e2.mono (by omega),q4,q5,q6,q7⟩
     | some x=>
      obtain ⟨k,f1,f2,f3,f4,f5,f6,rfl⟩:=c1Y hc;have o1:C3 (p+d):=w9 (by omega);refine ⟨_,rfl,j,by omega,rfl,by omega,e2.mono (by omega),?_,d5e q5 ⟨o1,e3⟩,by simp only;omega,by simp only;omega⟩;simp only [f0B,U7,e94,List.length_replicate];omega
    ·simp only [f1C,b3I,e9P];cases hc:J4 ⟨p,vs⟩ (p+d) with
     | none=>exact ⟨_,rfl,j,by omega,rfl,by omega,c2.mono (by omega),q4,q5,q6,q7⟩
     | some x=>
      unfold J4 a6X at hc;cases hcc:q8 (p+d) 1 3000&&decide (p<=p+d)
      ·rw [hcc] at hc;cases hc
      ·rw [hcc] at hc;injection hc with hc;subst hc;rw [e9U,H4] at hcc;exact ⟨_,rfl,j,by omega,rfl,by omega,c2.mono (by omega),q4,q5,by simp only;omega,by simp only;omega⟩) (k:=n.toNat) (s:=(r1,[],n,0)) ⟨by simp only;omega,by omega,a2.mono (by omega),by simp,by simp,by simp,by simp⟩
 obtain ⟨r2,l,p,rfl,b1,b2,b3,b4,b5⟩:=hq;unfold b15;rw [a1,e9P,hx];simp only [e9P,l8.go];unfold b8Z;obtain ⟨t,r3,c1,c2,c3,c4⟩:=C7 b1 (by omega) 40;rw [c1,e9P];simp only;cases t==0
 ·cases t==1
  ·cases t==2
   ·exact ⟨_,_,rfl,c2.mono (by omega),by simp only;omega,b3⟩
   ·exact ⟨_,_,rfl,c2.mono (by omega),by simp only;omega,b3⟩
  ·obtain ⟨u,r4,d1,d2,d3,d4⟩:=C7 c2 (by omega) 9;obtain ⟨en,r5,e1,e2,e3⟩:=c0A d2 (by omega);have o5:C3 u:=w9 (by omega);simp only [f1D,f1C,d1,b3j,e1,e9P];rw [t6 trivial,t6 (by omega)];exact ⟨_,_,rfl,e2.mono (by omega),by simp;omega,c1x b3 ⟨o5,e3⟩⟩
 ·obtain ⟨u,r4,d1,d2,d3⟩:=a1G c2 (by omega) [-1,3001,0] (by decide) (by decide);simp only [f1C,d1,e9P];exact ⟨_,_,rfl,d2.mono (by omega),by simp only;omega,b3⟩
theorem b5m{l:List m6}(h:l.length<=41)(hv:∀v∈l,G2 v):A0 96 G2 l:=R9 (by omega) hv
theorem c0H{r:o6}{m:Nat}(h:Rd r m)(hm:m<=100000000){x:j9}(hx:F9 x){b s:Int}(hb:C3 b)(hs:C3 s):∃y r',b6A r x b s=some (y,r')/\Rd r' (m+2)/\F9 y:=by
 obtain ⟨x1,x2,x3,x4,x5,x6,x7⟩:=hx;obtain ⟨t,r1,c1,c2,c3,c4⟩:=C7 h (by omega) 40;obtain ⟨u,r2,d1,d2,d3⟩:=a1G c2 (by omega) [0,9] (by decide) (by decide);obtain ⟨u3,r3,e1,e2,e3⟩:=a1G c2 (by omega) [-1,3001,0] (by decide) (by decide);obtain ⟨u4,r4,f1,f2,f3⟩:=a1G c2 (by omega) [-1,40,41] (by decide) (by decide);have o1:C3 u:=w9 (by simp at d3;omega);have o2:C3 u3:=w9 (by simp at e3;omega);have o3:C3 u4:=w9 (by simp at f3;omega);unfold b6A;simp only [c1,d1,e1,f1,e9P];cases t==0
 ·cases t==1
  ·cases t==2
   ·cases t==3
    ·exact ⟨_,_,rfl,c2.mono (by omega),x1,x2,x3,hb,hs,x6,x7⟩
    ·exact ⟨_,_,rfl,f2.mono (by omega),x1,x2,x3,hb,o3,x6,x7⟩
   ·exact ⟨_,_,rfl,e2.mono (by omega),x1,x2,x3,o2,hs,x6,x7⟩
  ·exact ⟨_,_,rfl,c2.mono (by omega),x1,x2,x2,hb,hs,x6,x7⟩
 ·exact ⟨_,_,rfl,d2.mono (by omega),o1,x2,x3,hb,hs,x6,x7⟩
theorem b4a{r:o6}{m:Nat}(h:Rd r m)(hm:m<=100000000)(x:j9)(hx:F9 x){b:Int}(hb:C3 b):∃y r',b0J r x b=some (y,r')/\Rd r' (m+2)/\F9 y:=by
 have z:C3 0:=w9 (by decide);unfold b0J;cases x.a6==6
 ·cases x.a6==7
  ·exact c0H h hm hx hb hx.2.2.2.2.1
  ·exact c0H h hm hx hb z
 ·exact c0H h hm hx hb z
theorem e55{r:o6}{m:Nat}(h:Rd r m)(hm:m<=100000000)(x:j9)(hx:F9 x):∃y r',b0B r x=some (y,r')/\Rd r' (m+2)/\F9 y:=by
 have z:C3 0:=w9 (by decide);unfold b0B;cases x.a6==5
 ·cases decide (x.a6>=7)
  ·exact b4a h hm x hx hx.2.2.2.1
  ·exact b4a h hm x hx z
 ·exact b4a h hm x hx z
theorem c9X{a b:Int}(ha:0<=a/\a<=2)(hb:0<=b/\b<=1):0<=e9Z (m4 (m4 (a+1)+b)) 3/\e9Z (m4 (m4 (a+1)+b)) 3<3:=by
 rw [B9 (show -9223372036854775808<=a+1 by omega) (by omega),B9 (by omega) (by omega)];exact b11 (by omega) (by omega)
theorem c0f{r:o6}{m:Nat}(h:Rd r m)(hm:m<=10000000):∃x r',a87 r=some (x,r')/\Rd r' (m+3100)/\F9 x:=by
 obtain ⟨a,r1,a1,a2,a3,a4⟩:=C7 h (by omega) 8;obtain ⟨b,r2,b1,b2,b3,b4⟩:=C7 a2 (by omega) 3;obtain ⟨c,r3,c1,c2,c3,c4⟩:=C7 b2 (by omega) 9;obtain ⟨d,r4,d1,d2,d3,d4⟩:=C7 c2 (by omega) 4;obtain ⟨e,r5,e1,e2,e3,e4⟩:=C7 d2 (by omega) 2;obtain ⟨en,r6,f1,f2,f3⟩:=c0A e2 (by omega);obtain ⟨ac,r7,g1,g2,g3,g4⟩:=c5a e2 (by omega);have k1:C3 (m4 (1+a)):=w9 (by rw [B9 (by omega) (by omega)];omega);have k2:C3 b:=w9 (by omega);have ht:=c9X (a:=b) (b:=e) (by omega) (by omega);have k3:C3 (e9Z (m4 (m4 (b+1)+e)) 3):=w9 (by omega);have k4:C3 (m4 (1+c)):=w9 (by rw [B9 (by omega) (by omega)];omega);have k5:C3 d:=w9 (by omega);have nl:A0 96 G2 []:=b5m (by simp) (by simp);unfold a87;rw [a1,e9P,b1,e9P,c1,e9P,d1,e9P,e1,e9P];simp only;have fin:∀(r:o6) (x:j9),Rd r (m+3006)->F9 x->∃y r',b0B r x=some (y,r')/\Rd r' (m+3100)/\F9 y:=by
  intro r x hr hx;obtain ⟨y,r',y1,y2,y3⟩:=e55 hr (by omega) x hx;exact ⟨y,r',y1,y2.mono (by omega),y3⟩
 have fin9:∀(r:o6) (x:j9),Rd r (m+3006)->F9 x->∃y r',b0J r x 0=some (y,r')/\Rd r' (m+3100)/\F9 y:=by
  intro r x hr hx;obtain ⟨y,r',y1,y2,y3⟩:=b4a hr (by omega) x hx (w9 (n:=0) (by decide));exact ⟨y,r',y1,y2.mono (by omega),y3⟩
 have fa:Rd r6 (m+3006):=f2.mono (by omega);cases m4 (1+a)==3
 ·cases m4 (1+a)==5
  ·cases m4 (1+a)==7
   ·cases m4 (1+a)==2
    ·exact fin r5 ⟨m4 (1+a),b,e9Z (m4 (m4 (b+1)+e)) 3,m4 (1+c),d,zE,[]⟩ (e2.mono (by omega)) ⟨k1,k2,k3,k4,k5,V1,nl⟩
    ·simp only [f1D,f1C,g1,e9P];exact fin r7 ⟨m4 (1+a),b,e9Z (m4 (m4 (b+1)+e)) 3,m4 (1+c),d,zE,ac.a0⟩ (g2.mono (by omega)) ⟨k1,k2,k3,k4,k5,V1,b5m g3 g4⟩
   ·simp only [f1D,f1C,b3j,f1,e9P];rw [t6 trivial];exact fin r6 ⟨m4 (1+a),b,e9Z (m4 (m4 (b+1)+e)) 3,m4 (1+c),d,en,[]⟩ fa ⟨k1,k2,k3,k4,k5,f3,nl⟩
  ·simp only [f1D,f1C,b3j,f1,e9P];rw [t6 trivial];exact fin9 r6 ⟨m4 (1+a),b,e9Z (m4 (m4 (b+1)+e)) 3,m4 (1+c),d,en,[]⟩ fa ⟨k1,k2,k3,k4,k5,f3,nl⟩
 ·simp only [f1C,b3j,f1,e9P];rw [t6 trivial];exact fin r6 ⟨m4 (1+a),b,e9Z (m4 (m4 (b+1)+e)) 3,m4 (1+c),d,en,[]⟩ fa ⟨k1,k2,k3,k4,k5,f3,nl⟩
theorem e6v{l:List m6}(hl:l.length<=41)(hv:∀v∈l,G2 v)(b:Int):∃o,b6b l b=some o/\o.length<=41/\∀v∈o,G2 v:=by
 obtain ⟨x,hx,hq⟩:=a4d (body:=fun s:(List m6)×Int=>b37 l b s.1 s.2)
  (fun k s=>s.2=(s.1.length:Int)/\s.1.length+k=3/\∀v∈s.1,G2 v)
  (fun x => ∃o:List m6,x=.brk o/\o.length<=3/\∀v∈o,G2 v) (by
   rintro k ⟨o,i⟩ ⟨q1,q2,q3⟩
   simp only at q1 q2 q3;subst q1;unfold b37;by_cases h1:o.length<l.length
   ·rw [show decide ((o.length:Int)<(l.length:Int))=true by simpa using h1,f1C];by_cases h2:o.length<3
    ·have hg:=hv _ (e9T h1);have hw:m4 ((o.length:Int)+1)=((o.length+1:Nat):Int):=by rw [B9 (by omega) (by omega)];omega
     rw [show decide ((o.length:Int)<3)=true by simp;omega,f1C,u6 h1,e9P];simp only;cases decide (l[o.length].a8<b)
     ·rw [f1D,t6 (by omega)];simp only [e9P,l8.go,b7T,hw];exact ⟨_,rfl,k-1,by omega,by simp,by simp;omega,c1x q3 b5L⟩
     ·rw [f1C,t6 (by omega)];simp only [e9P,l8.go,b7T,hw];exact ⟨_,rfl,k-1,by omega,by simp,by simp;omega,c1x q3 hg⟩
    ·rw [show decide ((o.length:Int)<3)=false by simp;omega];exact ⟨_,rfl,o,rfl,by omega,q3⟩
   ·rw [show decide ((o.length:Int)<(l.length:Int))=false by simpa using h1];exact ⟨_,rfl,o,rfl,by omega,q3⟩) (k:=3) (s:=([],0)) ⟨rfl,rfl,by simp⟩
 obtain ⟨o,rfl,h1,h2⟩:=hq;unfold b6b;rw [hx];exact ⟨o,rfl,by omega,h2⟩
theorem e2m{r:o6}{m:Nat}(h:Rd r m)(hm:m<=100000000){n:j8}(hn:NI n)(x:j9)(hx:F9 x):∃y r',b3b n r x=some (y,r',n)/\Rd r' (m+2)/\F9 y:=by
 obtain ⟨x1,x2,x3,x4,x5,x6,x7⟩:=hx;obtain ⟨t,r1,c1,c2,c3,c4⟩:=C7 h (by omega) 2;obtain ⟨u,r2,d1,d2,d3,d4⟩:=C7 c2 (by omega) 3;have hp:=hn.pr;have o1:C3 (m4 (n.Acc.i5+u)):=w9 (by rw [B9 (by omega) (by omega)];omega);unfold b3b;simp only [c1,d1,e9P];cases x.a6==3
 ·exact ⟨_,_,rfl,h.mono (by omega),x1,x2,x3,x4,x5,x6,x7⟩
 ·cases t==0
  ·exact ⟨_,_,rfl,c2.mono (by omega),x1,x2,x3,x4,x5,x6,x7⟩
  ·exact ⟨_,_,rfl,d2.mono (by omega),x1,x2,x3,o1,x5,x6,x7⟩
theorem e23{r:o6}{m:Nat}(h:Rd r m)(hm:m<=10000000){n:j8}(hn:NI n)(x:j9)(hx:F9 x):∃y r',b8f n r x=some (y,r',n)/\Rd r' (m+3010)/\F9 y:=by
 obtain ⟨x1,x2,x3,x4,x5,x6,x7⟩:=hx;obtain ⟨a,r1,a1,a2,a3,a4⟩:=C7 h (by omega) 2;obtain ⟨b,r2,b1,b2,b3,b4⟩:=C7 a2 (by omega) 2;obtain ⟨c,r3,c1,c2,c3,c4⟩:=C7 a2 (by omega) 3;obtain ⟨d,r4,d1,d2,d3,d4⟩:=C7 b2 (by omega) 3;obtain ⟨e,r5,e1,e2,e3,e4⟩:=C7 b2 (by omega) 2;obtain ⟨f,r6,f1,f2,f3,f4⟩:=C7 e2 (by omega) 3;obtain ⟨ac,r7,g1,g2,g3,g4⟩:=c5a b2 (by omega);obtain ⟨lo,l1,l2,l3⟩:=e6v g3 g4 n.a8;have hid:=hn.id;have hkl:=hn.kl;have ht:=c9X (a:=n.Id) (b:=a) hid (by omega);have k2:C3 (e9Z (m4 (m4 (n.Id+1)+a)) 3):=w9 (by omega);have k3:C3 n.Id:=w9 (by omega);have k4:C3 n.a8:=hn.ok.2.2.2.2.2.1;have k5:C3 (n.a7.length:Int):=w9 (by omega);have o2:C3 2:=w9 (by decide);have o4:C3 4:=w9 (by decide);have nl:A0 96 G2 []:=b5m (by simp) (by simp);have fin:∀(r:o6) (x:j9),Rd r (m+3008)->F9 x->∃y r',b3b n r x=some (y,r',n)/\Rd r' (m+3010)/\F9 y:=fun r x hr hx=>e2m hr (by omega) hn x hx
 have mC:F9 ⟨x.a6,e9Z (m4 (m4 (n.Id+1)+a)) 3,n.Id,x.a8,(n.a7.length:Int),x.g9,x.a0⟩:=⟨x1,k2,k3,x4,k5,x6,x7⟩
 have mD:F9 ⟨x.a6,e9Z (m4 (m4 (n.Id+1)+a)) 3,n.Id,x.a8,x.g8,x.g9,x.a0⟩:=⟨x1,k2,k3,x4,x5,x6,x7⟩
 have mB:F9 ⟨4,e9Z (m4 (m4 (n.Id+1)+a)) 3,n.Id,n.a8,(n.a7.length:Int),zE,[]⟩:=⟨o4,k2,k3,k4,k5,V1,nl⟩
 have mA:F9 ⟨2,e9Z (m4 (m4 (n.Id+1)+a)) 3,n.Id,n.a8,(n.a7.length:Int),zE,lo⟩:=⟨o2,k2,k3,k4,k5,V1,b5m l2 l3⟩
 unfold b8f;simp only [a1,b1,c1,d1,e1,f1,g1,l1,e9P];cases n.f0==1
 ·cases n.f0==3
  ·cases x.a6==5
   ·exact fin _ _ (a2.mono (by omega)) mD
   ·cases decide (c>0)
    ·exact fin _ _ (c2.mono (by omega)) mD
    ·exact fin _ _ (c2.mono (by omega)) mC
  ·cases b==0
   ·cases x.a6==5
    ·exact fin _ _ (b2.mono (by omega)) mD
    ·cases decide (d>0)
     ·exact fin _ _ (d2.mono (by omega)) mD
     ·exact fin _ _ (d2.mono (by omega)) mC
   ·exact fin _ _ (b2.mono (by omega)) mB
 ·cases b==0
  ·cases n.f0==3
   ·cases x.a6==5
    ·exact fin _ _ (b2.mono (by omega)) mD
    ·cases decide (d>0)
     ·exact fin _ _ (d2.mono (by omega)) mD
     ·exact fin _ _ (d2.mono (by omega)) mC
   ·cases e==0
    ·cases x.a6==5
     ·exact fin _ _ (e2.mono (by omega)) mD
     ·cases decide (f>0)
      ·exact fin _ _ (f2.mono (by omega)) mD
      ·exact fin _ _ (f2.mono (by omega)) mC
    ·exact fin _ _ (e2.mono (by omega)) mB
  ·exact fin _ _ (g2.mono (by omega)) mA
theorem d9u{r:o6}{m:Nat}(h:Rd r m)(hm:m<=9000000){n:j8}(hn:NI n):∃y r',b32 r n=some (y,r',n)/\Rd r' (m+16000)/\F9 y:=by
 obtain ⟨x0,r0,a1,a2,a3⟩:=c0f h (by omega);obtain ⟨x,hx,hq⟩:=a4d (body:=fun s:o6×j9×Int=>b6k s.1 s.2.1 s.2.2)
  (fun k s=>s.2.2=((3-k:Nat):Int)/\k<=3/\Rd s.1 (m+3100+3100*(3-k))/\F9 s.2.1)
  (fun x => ∃ (r:o6) (y:j9),x=.brk (r,y)/\Rd r (m+12400)/\F9 y) (by
   rintro k ⟨r,y,i⟩ ⟨q1,q2,q3,q4⟩
   simp only at q1 q3 q4;subst q1;unfold b6k;cases k with
   | zero=>exact ⟨_,rfl,_,_,rfl,q3.mono (by omega),q4⟩
   | succ k=>
    simp only;rw [show decide (((3-(k+1):Nat):Int)<3)=true by simp;omega,f1C,c3o q4,e9P];cases I4 y
    ·obtain ⟨z,r1,b1,b2,b3⟩:=c0f q3 (by omega);simp only [f0a,f1C,b1,e9P];refine ⟨_,rfl,k,by omega,?_,by omega,b2.mono (by omega),b3⟩;rw [B9 (by omega) (by omega)];simp only;omega
    ·exact ⟨_,rfl,_,_,rfl,q3.mono (by omega),q4⟩) (k:=3) (s:=(r0,x0,0)) ⟨rfl,by omega,a2.mono (by omega),a3⟩
 obtain ⟨r1,y,rfl,b1,b2⟩:=hq;unfold b32;rw [a1,e9P,hx];obtain ⟨z,r2,c1,c2,c3⟩:=e23 b1 (by omega) hn y b2;exact ⟨z,r2,c1,c2.mono (by omega),c3⟩
theorem e0H{n:j8}(h:NI n){m:j9}(hm:F9 m):∃x,b68 n m=some x/\NI x.1:=by
 unfold b68;rw [a7w h.ok,e9P,a0l.2 h,c3o hm];simp only [e9V,f1D,e9P,a8A h.ok];cases hk:I4 m
 ·exact ⟨_,rfl,h⟩
 ·have hmi:=c27.1 hk;cases m.To != n.Id
  ·simp only [e9V,f1D,d3F h hmi,e9P];exact ⟨_,rfl,(b00 h hmi).ni⟩
  ·exact ⟨_,rfl,h⟩
theorem d4j{r:o6}{m:Nat}(h:Rd r m)(hm:m<=1000000):∃n r',b7r r=some (n,r')/\Rd r' (m+300000)/\P5 n:=by
 obtain ⟨a,r1,a1,a2,a3,a4⟩:=C7 h (by omega) 3;obtain ⟨v,r2,b1,b2,b3⟩:=a1G a2 (by omega) [0,3,8,14] (by decide) (by decide);obtain ⟨i,hi,hi14⟩:∃i:Nat,v=(i:Int)/\i<=14:=⟨v.toNat,by simp at b3;omega,by simp at b3;omega⟩
 subst hi;have ho:a9X a=some (H5 a):=by
  unfold a9X;rw [show decide (a<0)=false by simp;omega,show decide (a>=3)=false by simp;omega];rfl
 obtain ⟨x,hx,hq⟩:=a4d (body:=fun s:o6×Int×j8=>b2s s.1 s.2.1 s.2.2)
  (fun k s=>s.2.1=(k:Int)/\k<=14/\Rd s.1 (m+2+16100*(14-k))/\NI s.2.2)
  (fun x => ∃ (r:o6) (n:j8),x=.brk (r,n)/\Rd r (m+280000)/\NI n) (by
   rintro k ⟨r,i,n⟩ ⟨q1,q2,q3,q4⟩
   simp only at q1 q3 q4;subst q1;unfold b2s;cases k with
   | zero=>exact ⟨_,rfl,_,_,rfl,q3.mono (by omega),q4⟩
   | succ k=>
    obtain ⟨p,r3,c1,c2,c3,c4⟩:=C7 q3 (by omega) 6;simp only;rw [show decide (((k+1:Nat):Int)>0)=true by simp,f1C,c1,e9P];simp only;cases p==0
    ·cases p==1
     ·obtain ⟨y,r4,d1,d2,d3⟩:=d9u c2 (by omega) q4;obtain ⟨z,e1,e2⟩:=e0H q4 d3;simp only [f1D,d1,e9P];rw [t6 trivial,t6 trivial,t6 trivial,t6 trivial,t6 trivial,e1];simp only [e9P,l8.go,b0E,b1r (show k<1000 by omega)];exact ⟨_,rfl,k,by omega,rfl,by omega,d2.mono (by omega),e2⟩
     ·obtain ⟨pr,r4,d1,d2,d3⟩:=a8u c2 (by omega);have hp:A0 32 okT pr:=⟨by omega,fun _ _=>trivial⟩
      simp only [f1D,f1C,d1,e9P,d3p q4 hp,l8.go,b0E,b1r (show k<1000 by omega)];exact ⟨_,rfl,k,by omega,rfl,by omega,d2.mono (by omega),(b1S q4 (hp.fits (by decide))).ni⟩
    ·simp only [f1C,c5d q4,e9P,l8.go,b0E,b1r (show k<1000 by omega)];exact ⟨_,rfl,k,by omega,rfl,by omega,c2.mono (by omega),(b0N q4).ni⟩) (k:=i) (s:=(r2,(i:Int),H5 a)) ⟨rfl,hi14,b2.mono (by omega),NI.open (by omega)⟩
 obtain ⟨r3,n,rfl,c1,c2⟩:=hq;unfold b7r;rw [a1,e9P,ho,e9P,b1,e9P,show s2 (fun s:o6×Int×j8=>b2s s.1 s.2.1 s.2.2) (r2,(i:Int),H5 a)=_ from hx];simp only [e9P,l8.go];obtain ⟨n1,n2,n3,n4,n5,n6,n7,n8,n9,n10,n11,n12,n13⟩:=c2.ok;have hkl:=c2.kl;obtain ⟨t,r4,d1,d2,d3,d4⟩:=C7 c1 (by omega) 40;obtain ⟨u,r5,e1,e2,e3⟩:=a1G d2 (by omega) [-1,1,2,3,4] (by decide) (by decide);obtain ⟨u2,r6,f1,f2,f3⟩:=a1G d2 (by omega) [-1,3] (by decide) (by decide);have o1:C3 u:=w9 (by simp at e3;omega);have o2:C3 u2:=w9 (by simp at f3;omega);have oe:E1 ⟨true,⟨1,0⟩,⟨[],[],0,0⟩⟩:=⟨⟨w9 (by decide),w9 (by decide)⟩,V1.2⟩
 unfold c3b;simp only [d1,e1,f1,e9P];cases t==0
 ·cases t==1
  ·cases t==2
   ·cases t==3
    ·exact ⟨_,_,rfl,d2.mono (by omega),n1,n2,n3,n4,n5,n6,n7,n8,n9,n10,n11,n12,n13⟩
    ·simp only [f1C,f1D];rw [t6 (by omega)];refine ⟨_,_,rfl,d2.mono (by omega),n1,n2,R9 (by simp;omega) ?_,n4,n5,n6,n7,n8,n9,n10,n11,n12,n13⟩;intro e he;rcases e9S.1 he with q|q
     ·exact n3.2 e q
     ·rw [e92.1 q];exact oe
   ·exact ⟨_,_,rfl,d2.mono (by omega),n1,n2,n3,n4,n5,n6,n7,n8,n9,n10,n11,n12,n13⟩
  ·exact ⟨_,_,rfl,f2.mono (by omega),o2,n2,n3,n4,n5,n6,n7,n8,n9,n10,n11,n12,n13⟩
 ·exact ⟨_,_,rfl,e2.mono (by omega),n1,n2,n3,n4,o1,n6,n7,n8,n9,n10,n11,n12,n13⟩
theorem e8i{r:o6}{m:Nat}(h:Rd r m)(hm:m<=1000000)(w:m8):∃e r',b5r r w=some (e,r')/\Rd r' (m+210)/\O5 e:=by
 obtain ⟨v,hv⟩:=c75 (w.d8.length:Int);obtain ⟨a,r1,e1,h1,_⟩:=C7 h (by omega) v;obtain ⟨b,r2,e2,h2,_⟩:=C7 h1 (by omega) 24;have ask:∃e r',((A3 r2 3).bind fun p=>(a0x p.2).bind fun q=>some (v5.mk 1 p.1 q.1,q.2))=some (e,r')/\Rd r' (m+210)/\O5 e:=by
  obtain ⟨c,r3,e3,h3,_⟩:=C7 h2 (by omega) 3;obtain ⟨p,r4,e4,h4,hp⟩:=a8u h3 (by omega);rw [e3,e9P,e4,e9P];exact ⟨_,_,rfl,h4.mono (by omega),a0R hp⟩
 obtain ⟨c3,r3,e3,h3,_⟩:=C7 h2 (by omega) 3;obtain ⟨c4,r4,e4,h4,_⟩:=C7 h2 (by omega) 2;obtain ⟨c5,r5,e5,h5,_⟩:=C7 h4 (by omega) 3;obtain ⟨c6,r6,e6,h6,_⟩:=C7 h3 (by omega) 10;obtain ⟨c7,r7,e7,h7,_⟩:=C7 h6 (by omega) 5;obtain ⟨p,r8,e8,h8,hp⟩:=a8u h3 (by omega);have z:∀(k x:Int) (r:o6) (j:Nat),Rd r j->j<=m+210->∃e r',(some (v5.mk k x [],r):Option (v5×o6))=some (e,r')/\Rd r' (m+210)/\O5 e:=fun k x r j hr hj=>⟨_,_,rfl,hr.mono hj,a0R (by simp)⟩
 unfold b5r;rw [hv,e9P,e1,e9P,e2,e9P];simp only [e3,e4,e5,e6,e7,e8,e9P];cases b==0
 ·cases b==1
  ·cases b==2
   ·cases b==3
    ·cases b==4
     ·cases b==5
      ·cases b==6
       ·cases b==7
        ·cases b==8
         ·cases b==9
          ·cases b==10
           ·exact z _ _ _ _ h2 (by omega)
           ·cases c3==0
            ·exact z _ _ _ _ h3 (by omega)
            ·exact z _ _ _ _ h7 (by omega)
          ·exact z _ _ _ _ h2 (by omega)
         ·exact z _ _ _ _ h2 (by omega)
        ·cases c4==0
         ·exact z _ _ _ _ h4 (by omega)
         ·exact z _ _ _ _ h5 (by omega)
       ·exact z _ _ _ _ h3 (by omega)
      ·exact z _ _ _ _ h3 (by omega)
     ·exact z _ _ _ _ h3 (by omega)
    ·exact ⟨_,_,rfl,h8.mono (by omega),a0R hp⟩
   ·exact ⟨_,_,rfl,h8.mono (by omega),a0R hp⟩
  ·exact ⟨_,_,rfl,h8.mono (by omega),a0R hp⟩
 ·exact ⟨_,_,rfl,h8.mono (by omega),a0R hp⟩
theorem e6A(w:m8)(e:v5):c3l w e=a7h w e:=rfl
theorem e04{r:o6}(h:Rd r 0):∃w n r',b5W r=some ((w,n),r')/\Rd r' 500000/\a0w w/\n<=w.b7.length:=by
 obtain ⟨a,r1,a1,a2,a3,a4⟩:=C7 h (by omega) 3;obtain ⟨v,r2,b1,b2,b3⟩:=a1G a2 (by omega) [0,8,20,35] (by decide) (by decide);obtain ⟨i,hi,hi35⟩:∃i:Nat,v=(i:Int)/\i<=35:=⟨v.toNat,by simp at b3;omega,by simp at b3;omega⟩
 subst hi;obtain ⟨d1,d2⟩:=b6x WI.open (e:=⟨5,a,[]⟩) (a0R (by simp));obtain ⟨x,hx,hq⟩:=a4d (body:=fun s:o6×(List j8)×(List j9)×(List C1)×(List o8)×Int=>b5S s.1 s.2.1 s.2.2.1 s.2.2.2.1 s.2.2.2.2.1 s.2.2.2.2.2)
  (fun k s=>s.2.2.2.2.2=(k:Int)/\k<=35/\Rd s.1 (2+210*(35-k))/\WI ⟨s.2.1,s.2.2.1,s.2.2.2.1,s.2.2.2.2.1⟩)
  (fun x => ∃ (r:o6) (w:m8),x=.brk (r,w.b7,w.d8,w.g7,w.Told)/\Rd r 10000/\WI w) (by
   rintro k ⟨r,ns,nt,aq,tl,i⟩ ⟨q1,q2,q3,q4⟩
   simp only at q1 q3 q4;subst q1;unfold b5S;cases k with
   | zero=>exact ⟨_,rfl,_,⟨ns,nt,aq,tl⟩,rfl,q3.mono (by omega),q4⟩
   | succ k=>
    obtain ⟨e,r3,c1,c2,c3⟩:=e1j q3 (by omega) ⟨ns,nt,aq,tl⟩;obtain ⟨e1,e2⟩:=b6x q4 c3;simp only;rw [show decide (((k+1:Nat):Int)>0)=true by simp,f1C,c1,e9P];simp only;rw [t6 trivial,t6 trivial,t6 trivial,t6 trivial,e1,e9P,b1r (show k<1000 by omega)];exact ⟨_,rfl,k,by omega,rfl,by omega,c2.mono (by omega),e2⟩) (k:=i) (s:=(r2,(L7 a1a ⟨5,a,[]⟩).b7,(L7 a1a ⟨5,a,[]⟩).d8,(L7 a1a ⟨5,a,[]⟩).g7,(L7 a1a ⟨5,a,[]⟩).Told,(i:Int))) ⟨rfl,hi35,b2.mono (by omega),d2⟩
 obtain ⟨r3,w,rfl,c1,c2⟩:=hq;unfold b5W;rw [e0F,e9P,a1,e9P];simp only;rw [d1,e9P,b1,e9P];simp only;rw [hx];simp only [e9P,l8.go];obtain ⟨w1,w2,w3,w4⟩:=c2.ok;have hnl:=c2.nl;have hml:=c2.ml;have htl:=c2.tl;obtain ⟨t,r4,e1,e2,e3,e4⟩:=C7 c1 (by omega) 40;obtain ⟨m,r5,f1,f2,f3⟩:=c0f e2 (by omega);obtain ⟨n,r6,g1,g2,g3⟩:=d4j e2 (by omega);obtain ⟨u,r7,k1,k2,k3,k4⟩:=C7 e2 (by omega) 4;obtain ⟨u2,r8,l1,l2,l3,l4⟩:=C7 k2 (by omega) 8;have o1:C3 (m4 (u-1)):=w9 (by rw [B9 (by omega) (by omega)];omega);have o2:C3 (m4 (u2-1)):=w9 (by rw [B9 (by omega) (by omega)];omega);have z:C3 0:=w9 (by decide);have n3:((w.b7.length:Nat):Int)=3:=by omega
 unfold b8R;simp only [e1,f1,g1,k1,l1,e9P];cases t==0
 ·cases t==1
  ·cases t==2
   ·cases t==3
    ·exact ⟨_,_,_,rfl,e2.mono (by omega),⟨w1,w2,w3,w4⟩,f0u _⟩
    ·simp only [f1C,f1D];rw [t6 (by omega)];refine ⟨_,_,_,rfl,l2.mono (by omega),⟨w1,w2,w3,R9 (by simp;omega) ?_⟩,f0u _⟩;intro x hx;rcases e9S.1 hx with q|q
     ·exact w4.2 x q
     ·rw [e92.1 q];exact ⟨o1,⟨z,z⟩,o2,z⟩
   ·obtain ⟨n0,hn0⟩:∃n0,idx w.b7 0=some n0:=⟨_,u6 (k:=0) (by omega)⟩
    simp only [f1C,f1D,hn0,e9P];refine ⟨_,_,_,rfl,g2.mono (by omega),⟨R9 (by simp;omega) ?_,w2,w3,w4⟩,by simp⟩;intro x hx;rcases f0b hx with q|q
    ·exact w1.2 x q
    ·rw [q];exact g3
  ·simp only [f1C,f1D];rw [t6 (by omega)];refine ⟨_,_,_,rfl,f2.mono (by omega),⟨w1,R9 (by simp;omega) ?_,w3,w4⟩,f0u _⟩;intro x hx;rcases e9S.1 hx with q|q
   ·exact w2.2 x q
   ·rw [e92.1 q];exact f3
 ·simp only [f1C];rw [t6 (by omega)];exact ⟨_,_,_,rfl,e2.mono (by omega),⟨w1,w2,w3,w4⟩,by simp only;omega⟩
theorem e1q{w:m8}(h:a0w w)(n:Nat):a0w ⟨w.b7.take n,w.d8,w.g7,w.Told⟩:=by
 obtain ⟨w1,w2,w3,w4⟩:=h;refine ⟨⟨?_,fun x hx=>w1.2 x (f0D hx)⟩,w2,w3,w4⟩;have:=w1.1;have hl:(w.b7.take n).length<=w.b7.length:=by rw [f0i];omega
 exact f0f (f0d _ hl) this
theorem d8S{r:o6}(h:Rd r 600000){w:m8}(hw:a0w w){n:Nat}(hn:n<=90):∃l r',b6B r w (n:Int)=some (l,r')/\(∀e∈l,O5 e)/\l.length<=n:=by
 obtain ⟨x,hx,hq⟩:=a4d (body:=fun s:o6×m8×(List v5)×Int=>b6O (n:Int) s.1 s.2.1 s.2.2.1 s.2.2.2)
  (fun k s=>k<=n/\s.2.2.2=((n-k:Nat):Int)/\a0w s.2.1/\(∀e∈s.2.2.1,O5 e)/\s.2.2.1.length=n-k/\Rd s.1 (600000+210*(n-k)))
  (fun x => ∃ (r':o6) (l:List v5),x=.brk (r',l)/\(∀e∈l,O5 e)/\l.length<=n) (by
   rintro k ⟨r1,w,out,i⟩ ⟨hk,hi,hw,he,hl,hr⟩
   simp only at hi hw he hl hr;subst hi;unfold b6O;cases k with
   | zero=>
    simp only;rw [show decide (((n-0:Nat):Int)<(n:Int))=false by simp];exact ⟨_,rfl,_,_,rfl,he,by omega⟩
   | succ k=>
    simp only;rw [show decide (((n-(k+1):Nat):Int)<(n:Int))=true by simp;omega];obtain ⟨e,r2,ee,hr2,hee⟩:=e8i hr (by omega) w;simp only [f1C,ee,e9P];rw [t6 (by omega),b46 hw];have hi:m4 (((n-(k+1):Nat):Int)+1)=((n-k:Nat):Int):=by rw [B9 (by omega) (by omega)];omega
    cases hok:L5 w
    ·simp only [e9P,f1D,l8.go,b72,hi];exact ⟨_,rfl,k,by omega,by omega,rfl,hw,d2N he hee,by simp;omega,hr2.mono (by omega)⟩
    ·obtain ⟨d1,d2⟩:=b6x (b2b.1 hok) hee;simp only [e9P,f1C,c7T hw,e6A,d1,l8.go,b72,hi];exact ⟨_,rfl,k,by omega,by omega,rfl,d2.ok,d2N he hee,by simp;omega,hr2.mono (by omega)⟩) (k:=n) (s:=(r,w,[],0)) ⟨f0u _,by simp,hw,by simp,by simp,by simpa using h⟩
 obtain ⟨r',l,rfl,h1,h2⟩:=hq;unfold b6B;rw [hx];exact ⟨l,r',rfl,h1,h2⟩
theorem d6r{code:List Int}(h:∀x∈code,a5h x):∃w l,b8A code=some (w,l)/\a0w w/\(∀e∈l,O5 e)/\l.length<=14:=by
 obtain ⟨r,a1,a2⟩:=d69 h;obtain ⟨w,n,r1,b1,b2,b3,b4⟩:=e04 a2;obtain ⟨v,r2,c1,c2,c3⟩:=a1G b2 (by omega) [0,3,8,14] (by decide) (by decide);obtain ⟨i,hi,hi14⟩:∃i:Nat,v=(i:Int)/\i<=14:=⟨v.toNat,by simp at c3;omega,by simp at c3;omega⟩
 subst hi;have ht:=e1q b3 n;obtain ⟨l,r3,d1,d2,d3⟩:=d8S (c2.mono (by omega)) ht (n:=i) (by omega);unfold b8A;rw [a1,e9P,b1,e9P,t6 b4,c1,e9P];simp only;rw [d1];exact ⟨_,_,rfl,ht,d2,f0f d3 hi14⟩
theorem e88{w:m8}(h:WI w)(k:Int){a:Int}(ha:a=-1\/a=40):L7 w ⟨k,a,[]⟩=w:=by
 have hml:=h.ml;have h1:q8 a 0 2=false:=by
  rcases ha with rfl|rfl<;>rfl
 have h2:a04 w ⟨k,a,[]⟩=w:=by
  unfold a04;rcases ha with rfl|rfl
  ·rfl
  ·rw [show decide (0<=(⟨k,40,[]⟩:v5).A)=true from rfl,f1C,show (⟨k,40,[]⟩:v5).A.toNat=40 from rfl,f0l (by omega)]
 unfold L7;simp only [h1,h2];cases (k==2||(k==3||k==4))<;>rfl
theorem e71:a0w noW:=⟨O0,O0,O0,O0⟩
theorem evk(k a:Int):O5 ⟨k,a,[]⟩:=a0R (by simp)
theorem d5L{w:m8}(h:WI w)(l:List v5)(k:Int):s2 (fun s:Int=>a5P (w,l) k s) (-1)=some (.brk ()):=by
 have st:∀a:Int,(a=-1\/a=40)->a5P (w,l) k a=some (.nxt (m4 (m4 (a+40)+1))):=by
  intro a ha;unfold a5P;rw [show decide (a<=40)=true by simp;omega,f1C,d7g h (evk k a),e88 h k ha,e9P,b5H h.ok];rfl
 rw [F4 (body:=fun s:Int=>a5P (w,l) k s) (st (-1) (.inl rfl)),show m4 (m4 (-1+40)+1)=40 from rfl,F4 (body:=fun s:Int=>a5P (w,l) k s) (st 40 (.inr rfl))];exact D7 (body:=fun s:Int=>a5P (w,l) k s) rfl
theorem e8v{w:m8}(h:WI w)(l:List v5):s2 (fun s:Int=>b01 (w,l) s) (-1)=some (.brk ()):=by
 obtain ⟨x,hx,hq⟩:=a4d (body:=fun s:Int=>b01 (w,l) s)
  (fun j s=>s=10-(j:Int)/\j<=11) (fun x=>x=.brk ()) (by
   rintro j s ⟨q1,q2⟩
   unfold b01;cases j with
   | zero=>
    rw [show decide (s<=9)=false by simp;omega];exact ⟨_,rfl,rfl⟩
   | succ j=>
    rw [show decide (s<=9)=true by simp;omega,f1C,d5L h];refine ⟨_,rfl,j,by omega,?_,by omega⟩;rw [B9 (by omega) (by omega)];omega) (k:=11) (s := -1) ⟨by omega,by omega⟩
 rw [hx,hq]
theorem d9M{code:List Int}(h:A0 1 a5h code):c26 code=some true:=by
 unfold c26;cases decide ((code.length:Int)>1048576);case true=>rfl
 obtain ⟨w,l,a1,a2,a3,a4⟩:=d6r h.2;have hf:u5 ([]:List v5):=by unfold u5;simp
 have p1:=d1N a2 hf (by simp);have p2:=e7j a2 hf (by simp);simp only [f1D,a1,e9P,p1,p2];cases hw:L5 w
 ·simp only [f1B,f1D,b5H e71,e9P,e9V,b46 a2,hw,f0a,f1C];rfl
 ·have hi:=b2b.1 hw;have e0:(bif true&&decide (([]:List v5).length<=400) then a5w w [] else noW)=w:=rfl;rw [e0];simp only [b5H a2,e9P,e9V,f1D,b46 a2,hw,e8v hi l,l8.go];unfold c0U;have hf2:u5 (e9R (401:Int).toNat (⟨0,0,[]⟩:v5)):=by unfold u5;rw [List.length_replicate];omega
  have p3:=d1N a2 hf2 (by
   intro e he;rw [(f0s.1 he).2];exact evk 0 0)
  simp only [b5H a2,e9P,f1C];rw [t6 (by decide),p3,e9P,hw,show decide ((e9R (401:Int).toNat (⟨0,0,[]⟩:v5)).length<=400)=false by rw [List.length_replicate];rfl];rfl
end
end Go.Proofs.YtnajfkhignckkaaGreat
