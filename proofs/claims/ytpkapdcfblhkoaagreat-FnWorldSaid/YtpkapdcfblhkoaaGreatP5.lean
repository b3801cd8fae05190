/- What the law leans on, part 5. -/
import Derived.Test.YtpkapdcfblhkoaaGreatP4
set_option linter.unusedVariables false
set_option linter.unusedSimpArgs false
set_option linter.unnecessarySimpa false
namespace Go.Proofs.YtpkapdcfblhkoaaGreat
open Go
open Option renaming bind_some->e9M,map_some->f0K,getD_some->f0U
open List renaming getElem?_eq_getElem->e9N,replicate->e9O,mem_append->e9P,getElem_mem->e9Q,getElem?_eq_some_iff->e9T,all_eq_true->e9W,range->e9Y,mem_singleton->e9Z,eq_nil_of_length_eq_zero->e90,length_append->e91,append_assoc->e92,mem_of_getElem?->e93,drop_eq_nil_of_le->e94,drop_eq_getElem_cons->e98,mem_or_eq_of_mem_set->e99,getElem?_set_ne->f0a,flatten_cons->f0d,length_take->f0e,getD_eq_getElem?_getD->f0g,getElem?_eq_none->f0i,map_cons->f0j,take_of_length_le->f0k,mem_map->f0l,take_succ_eq_append_getElem->f0m,take_length->f0o,mem_replicate->f0r,take_append_drop->f0s,take_zero->f0t,any_eq_false->f0u,mem_of_mem_take->f0v,append_nil->f0w,length_set->f0z,mem_of_mem_drop->f0B,mem_filter->f0C,length_cons->f0D,mem_flatten->f0E,drop_zero->f0G,nil_append->f0H,mem_range->f0I,length_singleton->f0M,getElem?_set_self->f0S,findIdx?_eq_some_iff_getElem->f0T,length_map->f0X,getElem?_cons_succ->f0Y,getElem?_of_mem->f04,any_eq_true->f1a,take_succ_cons->f1b,replicate_succ->f1c,foldl_append->f1k,map_map->f1m,mem_cons_of_mem->f1s,length_nil->f1w,findIdx?_eq_none_iff->f1x
open Bool renaming and_eq_true->e9R,not_true->e9S,true_and->e95,not_false->e97,false_or->f0p,not_eq_true'->f0J,false_eq_true->f0O,and_true->f0P,true_or->f1p,or_eq_false_iff->f1t,and_self->f1u,false_and->f1B
open Int renaming tmod->e9U,toNat_natCast->f0h
open Nat renaming mul_le_mul_right->f0b,le_trans->f0c,le_refl->f0q,zero_add->f0y,succ_mul->f0A,add_zero->f01,sub_zero->f1y
noncomputable section
section
variable {l:List q9} {regs:List Int} {rs:List s1} {ps:List p9} {k:Nat} {i:r9}
theorem c00(h:regs.length=4):(G2 l i regs rs ps).1.length=4:=by
 unfold G2;cases i.a6==1<;>cases i.a6==2<;>cases i.a6==3<;>cases i.a6==4<;>cases i.a6==5<;>simp only [f1C,f1D,f0z,h]
 all_goals
  split
  ·split<;>simp [h]
  ·split<;>simp [h]
theorem d3E(h:rs.length<=k):(G2 l i regs rs ps).2.1.length<=k+1:=by
 unfold G2;cases i.a6==1<;>cases i.a6==2<;>cases i.a6==3<;>cases i.a6==4<;>cases i.a6==5<;>simp only [f1C,f1D]<;>try omega
 all_goals
  split
  ·split<;>(simp only;omega)
  ·split
   ·cases L7 rs i.B<;>simp only [f1C,f1D,e91,f0M]<;>omega
   ·simp only;omega
theorem d0v(h:ps.length<=k):(G2 l i regs rs ps).2.2.length<=k+1:=by
 unfold G2;cases i.a6==1<;>cases i.a6==2<;>cases i.a6==3<;>cases i.a6==4<;>cases i.a6==5<;>simp only [f1C,f1D]<;>try omega
 all_goals (repeat' split)
 all_goals (try simp only [f0z,e91,f0M])
 all_goals omega
theorem EI.next(h:EI regs rs ps k)(ha:(G2 l i regs rs ps).1.all G9=true):EI (G2 l i regs rs ps).1 (G2 l i regs rs ps).2.1 (G2 l i regs rs ps).2.2 (k+1):=
 ⟨c00 h.len,ha,d3E h.rl,d0v h.pl⟩
theorem b8s{x:Int}(h:-1000000<=x/\x<=1000000){y:Int}(h':-1000000<=y/\y<=1000000):m4 (x+y)=x+y/\m4 (x-y)=x-y:=⟨B8 (by omega) (by omega),B8 (by omega) (by omega)⟩
theorem d9w(hl:F6 l=true)(he:EI regs rs ps k)(hk:k<=100)(hi:M2 i=true)(h6:i.a6≠6)(h7:i.a6≠7) :
  a58 l ⟨rs,ps,0,0⟩ regs i=some (⟨(G2 l i regs rs ps).2.1,(G2 l i regs rs ps).2.2,0,bif (G2 l i regs rs ps).1.all G9 then 0 else 2⟩,(G2 l i regs rs ps).1):=by
 have hfr:=he.fr hk;have hfp:=he.fp hk;have hrl:=he.rl;have hpl:=he.pl;have n1:(rs.length+1)*16<=140737488355328:=by omega
 have n2:(ps.length+1)*16<=140737488355328:=by omega
 have fin:∀(a v:Int) (rs':List s1) (ps':List p9),0<=a/\a<=3->i.a6≠2->i.A=a->a3l i (regs.set a.toNat v) rs' ps' 0 0=some (⟨rs',ps',0,bif (regs.set a.toNat v).all G9 then 0 else 2⟩,regs.set a.toNat v):=by
  intro a v rs' ps' ha h2 hia;unfold a3l a7w;rw [show (i.a6 != 2)=true from by simpa using h2,f1C,hia,K7 (by simpa using he.len) ha,e9M,a5G,e9M,d5B he.len ha,d5G he.len he.rng ha];unfold G9;cases q8 v (-1000000) 1000000<;>rfl
 unfold a58 G2;rcases a8e hi with ⟨h,ha,hb⟩|⟨h,ha,hb⟩|⟨h,ha,hn⟩|⟨h,ha,hb⟩|⟨h,ha,hb⟩|⟨h,_⟩|⟨h,_⟩
 ·simp only [h,show ((1:Int)==1)=true from rfl,f1C];unfold b0v b3f;rw [d1O hfp,e9M];cases hp:Y6 ps i.B with
  | some j=>
   have hj:=b2a hp;simp only [b3Z,f1C,e9N hj];simp only [atI,u6 hj,e9M,K7 he.len ha,l8.go];exact fin i.A _ rs ps ha (by omega) rfl
  | none=>
   obtain ⟨b,hb1,hb2,_⟩:=a39 hl hb;simp only [b6R,f1D,c0C hfr,e9M,hb1,hb2,t6 n1];cases hs:L7 rs i.B
   ·simp only [e97,f1C,f1D,e9M,l8.go,hb1,K7 he.len ha];exact fin i.A _ _ _ ha (by omega) rfl
   ·simp only [e9S,f1C,f1D,e9M,l8.go,hb1,K7 he.len ha];exact fin i.A _ _ _ ha (by omega) rfl
 ·simp only [h,show ((2:Int)==1)=false from rfl,show ((2:Int)==2)=true from rfl,f1C,f1D,K7 he.len hb,e9M];unfold b2F;rw [d1O hfp,e9M];have fin2:∀ps':List p9,a3l i regs rs ps' 0 0=some (⟨rs,ps',0,bif regs.all G9 then 0 else 2⟩,regs):=by
   intro ps';unfold a3l a7w;rw [he.rng,h];rfl
  cases hp:Y6 ps i.A with
  | some j=>
   have hj:=b2a hp;simp only [b3Z,f1C,e9N hj];simp only [atI,u6 hj,e9M,l8.go,f0h];exact fin2 _
  | none=>
   simp only [b6R,f1D,t6 n2,e9M,l8.go];exact fin2 _
 ·simp only [h,show ((3:Int)==1)=false from rfl,show ((3:Int)==2)=false from rfl,show ((3:Int)==3)=true from rfl,f1C,f1D,K7 he.len ha,e9M,l8.go];exact fin i.A _ _ _ ha (by omega) rfl
 ·simp only [h,show ((4:Int)==1)=false from rfl,show ((4:Int)==2)=false from rfl,show ((4:Int)==3)=false from rfl,show ((4:Int)==4)=true from rfl,f1C,f1D,K7 he.len ha,K7 he.len hb,e9M,l8.go,(b8s (a1O he.len he.rng ha) (a1O he.len he.rng hb)).1];exact fin i.A _ _ _ ha (by omega) rfl
 ·simp only [h,show ((5:Int)==1)=false from rfl,show ((5:Int)==2)=false from rfl,show ((5:Int)==3)=false from rfl,show ((5:Int)==4)=false from rfl,show ((5:Int)==5)=true from rfl,f1C,f1D,K7 he.len ha,K7 he.len hb,e9M,l8.go,(b8s (a1O he.len he.rng ha) (a1O he.len he.rng hb)).2];exact fin i.A _ _ _ ha (by omega) rfl
 ·exact absurd h h6
 ·exact absurd h h7
theorem d8z(hi:i.a6=7)(ha:i.A=0)(he:EI regs rs ps k):a58 l ⟨rs,ps,0,0⟩ regs i=some (⟨rs,ps,0,1⟩,regs):=by
 have hin:=a1O he.len he.rng (a:=0) (by omega);unfold a58 a3l a7w;simp only [hi,ha,show ((7:Int)==1)=false from rfl,show ((7:Int)==2)=false from rfl,show ((7:Int)==3)=false from rfl,show ((7:Int)==4)=false from rfl,show ((7:Int)==5)=false from rfl,show ((7:Int)==7)=true from rfl,show ((7:Int) != 2)=true from rfl,f1C,f1D,e9M,l8.go,K7 he.len (a:=0) (by omega),a5G];rw [show q8 (I4 regs 0) (-1000000) 1000000=true from by simp [q8];exact hin];rfl
theorem d2r(l:List q9){prog:List r9}{f k:Nat}{regs:List Int}{rs:List s1}{ps:List p9}(h:prog.length<=k):a0J l prog f k regs rs ps=⟨rs,ps,I4 regs 0,0⟩:=by
 cases f with
 | zero=>rfl
 | succ f=>
  unfold a0J;rw [f0i h]
theorem c1Y{prog:List r9}(hp:D6 prog=true):prog.length<=10/\∀i∈prog,M2 i=true:=by
 unfold D6 at hp;simpa using hp
theorem c6Z(l:List q9)(prog:List r9)(regs:List Int)(rs:List s1)(ps:List p9)(k c:Int)(hc:(c==0)=false) :
  ((s2 (fun s:(List Int)×(List s1)×(List p9)×Int×Int×Int=>a0j l prog s.1 s.2.1 s.2.2.1 s.2.2.2.1 s.2.2.2.2.1 s.2.2.2.2.2) (regs,rs,ps,k,0,c)).bind fun x=>x.go (fun r=>some r) fun s=>a5b s.1 s.2.1 s.2.2.1 s.2.2.2.1 s.2.2.2.2)=some ⟨rs,[],0,c⟩:=by
 rw [D7 (b:=(rs,ps,regs,0,c))]
 ·simp only [e9M,l8.go];unfold a5b;rw [bne,hc];rfl
 ·unfold a0j;simp only [hc,f1D];cases decide (k<(prog.length:Int))<;>rfl
theorem d9F(hl:F6 l=true){prog:List r9}(hp:D6 prog=true):∀(f k:Nat) (regs:List Int) (rs:List s1) (ps:List p9),EI regs rs ps k->prog.length<k+f->k<=prog.length+10->
  ((s2 (fun s:(List Int)×(List s1)×(List p9)×Int×Int×Int=>a0j l prog s.1 s.2.1 s.2.2.1 s.2.2.2.1 s.2.2.2.2.1 s.2.2.2.2.2) (regs,rs,ps,(k:Int),0,0)).bind fun x=>x.go (fun r=>some r) fun s=>a5b s.1 s.2.1 s.2.2.1 s.2.2.2.1 s.2.2.2.2)=some (a0J l prog f k regs rs ps):=by
 obtain ⟨hlen,hins⟩:=c1Y hp;intro f;induction f with
 | zero=>
  intro k regs rs ps he hf hk;rw [D7 (b:=(rs,ps,regs,0,0))]
  ·simp only [e9M,l8.go];unfold a5b;rw [show ((0:Int) != 0)=false from rfl,f1D,K7 he.len (a:=0) (by omega)];rfl
  ·unfold a0j;rw [show decide ((k:Int)<(prog.length:Int))=false from by simp;omega];rfl
 | succ f ih=>
  intro k regs rs ps he hf hk;by_cases hlt:k<prog.length
  ·have hi:=hins _ (e9Q hlt);unfold a0J;rw [e9N hlt];simp only;by_cases h6:prog[k].a6=6
   ·obtain ⟨ha,hb,hn⟩:(0<=prog[k].A/\prog[k].A<=3)/\(0<=prog[k].B/\prog[k].B<=3)/\1<=prog[k].N/\prog[k].N<=10:=by
     rcases a8e hi with ⟨h,_⟩|⟨h,_⟩|⟨h,_⟩|⟨h,_⟩|⟨h,_⟩|⟨h,x⟩|⟨h,_⟩
     all_goals first|(exact x)|(exfalso;omega)
    have hb1:a0j l prog regs rs ps (k:Int) 0 0=some (.nxt (regs,rs,ps,((bif decide (I4 regs prog[k].A<I4 regs prog[k].B) then k+prog[k].N.toNat+1 else k+1:Nat):Int),0,0)):=by
     unfold a0j b53;rw [z0 _ k hlt,u6 hlt];simp only [f1C,e9M,h6,show ((6:Int)==6)=true from rfl,show ((0:Int)==0)=true from rfl,K7 he.len ha,K7 he.len hb];cases decide (I4 regs prog[k].A<I4 regs prog[k].B)
     ·simp only [f1D,e9M,l8.go];rw [B8 (by omega) (by omega)];rfl
     ·simp only [f1C,e9M,l8.go];rw [B8 (n:=(k:Int)+prog[k].N) (by omega) (by omega),B8 (by omega) (by omega),show ((k+prog[k].N.toNat+1:Nat):Int)=(k:Int)+prog[k].N+1 from by omega]
    rw [F7 hb1,h6];simp only [show ((6:Int)==6)=true from rfl,f1C];refine ih _ _ _ _ ⟨he.len,he.rng,?_,?_⟩ ?_ ?_;all_goals
     have h1:=he.rl;have h2:=he.pl;cases decide (I4 regs prog[k].A<I4 regs prog[k].B)<;>simp only [f1C,f1D]<;>omega
   by_cases h7:prog[k].a6=7
   ·have ha:prog[k].A=0:=by
     rcases a8e hi with ⟨h,_⟩|⟨h,_⟩|⟨h,_⟩|⟨h,_⟩|⟨h,_⟩|⟨h,_⟩|⟨h,x⟩
     all_goals first|(exact x)|(exfalso;omega)
    have hb1:a0j l prog regs rs ps (k:Int) 0 0=some (.nxt (regs,rs,ps,m4 ((k:Int)+1),0,1)):=by
     unfold a0j;rw [z0 _ k hlt,u6 hlt];simp only [f1C,e9M,show ((0:Int)==0)=true from rfl,d8z h7 ha he,h7,show ((7:Int)==6)=false from rfl,f1D];rw [t6 trivial]
    rw [F7 hb1,c6Z _ _ _ _ _ _ _ rfl,h7];rfl
   ·have hs:=d9w hl he (by omega) hi h6 h7;have hb1:a0j l prog regs rs ps (k:Int) 0 0=some (.nxt ((G2 l prog[k] regs rs ps).1,(G2 l prog[k] regs rs ps).2.1,(G2 l prog[k] regs rs ps).2.2,((k+1:Nat):Int),0,bif (G2 l prog[k] regs rs ps).1.all G9 then 0 else 2)):=by
     unfold a0j;rw [z0 _ k hlt,u6 hlt];simp only [f1C,e9M,show ((0:Int)==0)=true from rfl,hs,show (prog[k].a6==6)=false from by simpa using h6,f1D];rw [t6 (by rw [c00 he.len];exact he.len),B8 (by omega) (by omega)];rfl
    rw [F7 hb1,show (prog[k].a6==6)=false from by simpa using h6,show (prog[k].a6==7)=false from by simpa using h7,f1D,f1D];cases hall:(G2 l prog[k] regs rs ps).1.all G9
    ·rw [f1D,f1D,c6Z _ _ _ _ _ _ _ rfl]
    ·rw [f1C,f1C];exact ih _ _ _ _ (he.next hall) (by omega) (by omega)
  ·rw [d2r l (by omega),D7 (b:=(rs,ps,regs,0,0))]
   ·simp only [e9M,l8.go];unfold a5b;rw [show ((0:Int) != 0)=false from rfl,f1D,K7 he.len (a:=0) (by omega)];rfl
   ·unfold a0j;rw [show decide ((k:Int)<(prog.length:Int))=false from by simp;omega];rfl
theorem ei0:EI [0,0,0,0] [] [] 0:=⟨rfl,by decide,by simp,by simp⟩
theorem e0b{l:List q9}{prog:List r9}(hl:u5 l)(hp:u5 prog):a70 l prog=some (C5 l prog):=by
 unfold a70 C5;rw [c0d hl,e9M,b4W hp,e9M];cases hb:F6 l
 ·rfl
 cases ho:D6 prog
 ·rfl
 rw [e9S,f1D,f1D,t6 (by decide)];have:=d9F hb ho (prog.length+1) 0 [0,0,0,0] [] [] ei0 (by omega) (by omega);exact this
theorem e2K{regs:List Int}{Reads1:List s1}{ins:r9}{put1:p9}(h:regs.length=4)(hr:Reads1.length<=1000):s2 (fun s:Int=>b1c regs Reads1 ins put1 s) 0=some (bif (regs.set ins.A.toNat put1.d9).all G9 then .brk () else .ret ⟨Reads1,[],0,2⟩):=by
 have hl:(regs.set ins.A.toNat put1.d9).length=4:=by simpa using h
 refine b8G (regs.set ins.A.toNat put1.d9) (by unfold u5;omega) G9 _ () (fun k hk => ?_) ?_
 ·have hk4:(k:Int)<4:=by omega
  unfold b1c;rw [decide_eq_true hk4,u6 hk,f1C,e9M,t6 hk4,M0,e9M,b3G hr];unfold G9;cases q8 (regs.set ins.A.toNat put1.d9)[k] (-1000000) 1000000<;>rfl
 ·unfold b1c;rw [hl];rfl
theorem d3L{regs:List Int}{Reads1:List s1}{ins:r9}{box:q9}(h:regs.length=4)(hr:Reads1.length<=1000):s2 (fun s:Int=>b2S regs ins Reads1 box s) 0=some (bif (regs.set ins.A.toNat box.d9).all G9 then .brk () else .ret ⟨Reads1,[],0,2⟩):=by
 have hl:(regs.set ins.A.toNat box.d9).length=4:=by simpa using h
 refine b8G (regs.set ins.A.toNat box.d9) (by unfold u5;omega) G9 _ () (fun k hk => ?_) ?_
 ·have hk4:(k:Int)<4:=by omega
  unfold b2S;rw [decide_eq_true hk4,u6 hk,f1C,e9M,t6 hk4,M0,e9M,b3G hr];unfold G9;cases q8 (regs.set ins.A.toNat box.d9)[k] (-1000000) 1000000<;>rfl
 ·unfold b2S;rw [hl];rfl
theorem c3E{regs:List Int}{Reads1:List s1}(h:regs.length=4)(hr:Reads1.length<=1000):s2 (fun s:Int=>b3a Reads1 regs s) 0=some (bif regs.all G9 then .brk () else .ret ⟨Reads1,[],0,2⟩):=by
 refine b8G regs (by unfold u5;omega) G9 _ () (fun k hk => ?_) ?_
 ·have hk4:(k:Int)<4:=by omega
  unfold b3a;rw [decide_eq_true hk4,u6 hk,f1C,e9M,t6 hk4,M0,e9M,b3G hr];unfold G9;cases q8 regs[k] (-1000000) 1000000<;>rfl
 ·unfold b3a;rw [h];rfl
theorem e7D(hl:F6 l=true)(he:EI regs rs ps k)(hk:k<=100){prog:List r9}(hkl:k<prog.length)(hpl:prog.length<=10)(R:List s1)(P:List p9)(hi:M2 prog[k]=true)(h6:prog[k].a6≠6)(h7:prog[k].a6≠7) :
  a2D l prog regs R P rs ps (k:Int)=some (bif (G2 l prog[k] regs rs ps).1.all G9 then .nxt ((G2 l prog[k] regs rs ps).1,R,P,(G2 l prog[k] regs rs ps).2.1,(G2 l prog[k] regs rs ps).2.2,((k+1:Nat):Int)) else .ret ⟨(G2 l prog[k] regs rs ps).2.1,[],0,2⟩):=by
 have hfr:=he.fr hk;have hfp:=he.fp hk;have hrl:=he.rl;have hpl:=he.pl;have n1:(rs.length+1)*16<=140737488355328:=by omega
 have n2:(ps.length+1)*16<=140737488355328:=by omega
 have hw:m4 ((k:Int)+1)=((k+1:Nat):Int):=by rw [B8 (by omega) (by omega)];rfl
 have fin:∀(regs':List Int) (ps':List p9),regs'.length=4->a9X R P rs regs' ps' (k:Int)=some (bif regs'.all G9 then .nxt (regs',R,P,rs,ps',((k+1:Nat):Int)) else .ret ⟨rs,[],0,2⟩):=by
  intro regs' ps' h;unfold a9X b2p;rw [c3E h (by omega),hw];cases regs'.all G9<;>rfl
 have hset:∀(a:Nat) (v:Int),(regs.set a v).length=4:=fun a v=>by simpa using he.len
 unfold a2D G2;generalize hin:prog[k]=i at hi h6 h7;rw [z0 _ k hkl,u6 hkl,hin,f1C,e9M];rcases a8e hi with ⟨h,ha,hb⟩|⟨h,ha,hb⟩|⟨h,ha,hn⟩|⟨h,ha,hb⟩|⟨h,ha,hb⟩|⟨h,_⟩|⟨h,_⟩
 ·have na:i.A<4:=by omega
  simp only [h,show ((1:Int)==1)=true from rfl,f1C];rw [d0F (x:=⟨rs,ps,0,0⟩) hfp,e9M];simp only;cases hp:Y6 ps i.B with
  | some j=>
   have hj:=b2a hp;simp only [b3Z,f1C,e9N hj];simp only [atI,u6 hj,e9M,K7 he.len ha];rw [t6 na,e2K he.len (by omega)];unfold b9O;rw [hw];cases (regs.set i.A.toNat ps[j].d9).all G9<;>rfl
  | none=>
   obtain ⟨b,hb1,hb2,_⟩:=a39 hl hb;obtain ⟨v,hv1,hv2⟩:=e0c (x:=⟨rs,ps,0,0⟩) hfr i.B;simp only [b6R,f1D,hv1,hv2,e9M,hb1,hb2,t6 n1];cases hs:L7 rs i.B
   ·simp only [e97,f1C,f1D,e9M,l8.go];unfold b8B b4L;rw [hb1,e9M,K7 he.len ha,e9M,t6 na,d3L he.len (by simp;omega),hw];cases (regs.set i.A.toNat b.d9).all G9<;>rfl
   ·simp only [e9S,f1C,f1D,e9M,l8.go];unfold b8B b4L;rw [hb1,e9M,K7 he.len ha,e9M,t6 na,d3L he.len (by omega),hw];cases (regs.set i.A.toNat b.d9).all G9<;>rfl
 ·have nb:i.B<4:=by omega
  simp only [h,show ((2:Int)==1)=false from rfl,show ((2:Int)==2)=true from rfl,f1C,f1D];rw [d0F (x:=⟨rs,ps,0,0⟩) hfp,e9M];simp only;cases hp:Y6 ps i.A with
  | some j=>
   have hj:=b2a hp;simp only [b3Z,f1C,e9N hj];simp only [atI,u6 hj,e9M,K7 he.len hb,f0h];rw [t6 nb];simp only [e9M,l8.go];exact fin _ _ he.len
  | none=>
   simp only [b6R,f1D,e9M,K7 he.len hb];rw [t6 nb,t6 n2];simp only [e9M,l8.go];exact fin _ _ he.len
 ·have na:i.A<4:=by omega
  simp only [h,show ((3:Int)==1)=false from rfl,show ((3:Int)==2)=false from rfl,show ((3:Int)==3)=true from rfl,f1C,f1D,K7 he.len ha,e9M];rw [t6 na];simp only [e9M,l8.go];exact fin _ _ (hset _ _)
 ·have na:i.A<4:=by omega
  have nb:i.B<4:=by omega
  simp only [h,show ((4:Int)==1)=false from rfl,show ((4:Int)==2)=false from rfl,show ((4:Int)==3)=false from rfl,show ((4:Int)==4)=true from rfl,f1C,f1D,K7 he.len ha,K7 he.len hb,e9M,(b8s (a1O he.len he.rng ha) (a1O he.len he.rng hb)).1,t6 na,t6 nb,l8.go];exact fin _ _ (hset _ _)
 ·have na:i.A<4:=by omega
  have nb:i.B<4:=by omega
  simp only [h,show ((5:Int)==1)=false from rfl,show ((5:Int)==2)=false from rfl,show ((5:Int)==3)=false from rfl,show ((5:Int)==4)=false from rfl,show ((5:Int)==5)=true from rfl,f1C,f1D,K7 he.len ha,K7 he.len hb,e9M,(b8s (a1O he.len he.rng ha) (a1O he.len he.rng hb)).2,t6 na,t6 nb,l8.go];exact fin _ _ (hset _ _)
 ·exact absurd h h6
 ·exact absurd h h7
theorem e4b(hl:F6 l=true){prog:List r9}(hp:D6 prog=true)(R:List s1)(P:List p9):∀(f k:Nat) (regs:List Int) (rs:List s1) (ps:List p9),EI regs rs ps k->prog.length<k+f->k<=prog.length+10->
  ((s2 (fun s:(List Int)×(List s1)×(List p9)×(List s1)×(List p9)×Int=>a2D l prog s.1 s.2.1 s.2.2.1 s.2.2.2.1 s.2.2.2.2.1 s.2.2.2.2.2) (regs,R,P,rs,ps,(k:Int))).bind fun x=>x.go (fun r=>some r) fun s=>b1e s.1 s.2.1 s.2.2.1 s.2.2.2.1 s.2.2.2.2)=some (a0J l prog f k regs rs ps):=by
 obtain ⟨hlen,hins⟩:=c1Y hp;have stop:∀(k:Nat) (regs:List Int) (rs:List s1) (ps:List p9),EI regs rs ps k->prog.length<=k->k<=prog.length+10->((s2 (fun s:(List Int)×(List s1)×(List p9)×(List s1)×(List p9)×Int=>a2D l prog s.1 s.2.1 s.2.2.1 s.2.2.2.1 s.2.2.2.2.1 s.2.2.2.2.2) (regs,R,P,rs,ps,(k:Int))).bind fun x=>x.go (fun r=>some r) fun s=>b1e s.1 s.2.1 s.2.2.1 s.2.2.2.1 s.2.2.2.2)=some ⟨rs,ps,I4 regs 0,0⟩:=by
  intro k regs rs ps he h1 h2;have h3:=he.rl;have h4:=he.pl;rw [D7 (b:=(R,P,regs,rs,ps))]
  ·simp only [e9M,l8.go];unfold b1e;rw [b3G (by omega),e9M,e3N (by omega),e9M,K7 he.len (a:=0) (by omega),e9M,t6 (by decide)]
  ·unfold a2D;rw [show decide ((k:Int)<(prog.length:Int))=false from by simp;omega];rfl
 intro f;induction f with
 | zero=>
  intro k regs rs ps he hf hk;exact stop k regs rs ps he (by omega) hk
 | succ f ih=>
  intro k regs rs ps he hf hk;by_cases hlt:k<prog.length
  ·have hi:=hins _ (e9Q hlt);unfold a0J;rw [e9N hlt];simp only;by_cases h6:prog[k].a6=6
   ·obtain ⟨ha,hb,hn⟩:(0<=prog[k].A/\prog[k].A<=3)/\(0<=prog[k].B/\prog[k].B<=3)/\1<=prog[k].N/\prog[k].N<=10:=by
     rcases a8e hi with ⟨h,_⟩|⟨h,_⟩|⟨h,_⟩|⟨h,_⟩|⟨h,_⟩|⟨h,x⟩|⟨h,_⟩
     all_goals first|(exact x)|(exfalso;omega)
    have hrl:=he.rl;have hb1:a2D l prog regs R P rs ps (k:Int)=some (.nxt (regs,R,P,rs,ps,((bif decide (I4 regs prog[k].A<I4 regs prog[k].B) then k+prog[k].N.toNat+1 else k+1:Nat):Int))):=by
     have na:prog[k].A<4:=by omega
     have nb:prog[k].B<4:=by omega
     unfold a2D;rw [z0 _ k hlt,u6 hlt];simp only [f1C,e9M,h6,show ((6:Int)==1)=false from rfl,show ((6:Int)==2)=false from rfl,show ((6:Int)==3)=false from rfl,show ((6:Int)==4)=false from rfl,show ((6:Int)==5)=false from rfl,show ((6:Int)==6)=true from rfl,f1D,K7 he.len ha,K7 he.len hb,t6 na,t6 nb];cases decide (I4 regs prog[k].A<I4 regs prog[k].B)
     ·simp only [f1D,e9M,l8.go];unfold a9X b2p;rw [c3E he.len (by omega),he.rng,B8 (by omega) (by omega)];rfl
     ·simp only [f1C,e9M,l8.go];unfold a9X b2p;rw [c3E he.len (by omega),he.rng,B8 (n:=(k:Int)+prog[k].N) (by omega) (by omega),B8 (by omega) (by omega),show ((k+prog[k].N.toNat+1:Nat):Int)=(k:Int)+prog[k].N+1 from by omega];rfl
    rw [F7 hb1,h6];simp only [show ((6:Int)==6)=true from rfl,f1C];refine ih _ _ _ _ ⟨he.len,he.rng,?_,?_⟩ ?_ ?_;all_goals
     have h1:=he.rl;have h2:=he.pl;cases decide (I4 regs prog[k].A<I4 regs prog[k].B)<;>simp only [f1C,f1D]<;>omega
   by_cases h7:prog[k].a6=7
   ·have hrl:=he.rl;have hb1:a2D l prog regs R P rs ps (k:Int)=some (.ret ⟨rs,[],0,1⟩):=by
     unfold a2D;rw [z0 _ k hlt,u6 hlt];simp only [f1C,e9M,h7,show ((7:Int)==1)=false from rfl,show ((7:Int)==2)=false from rfl,show ((7:Int)==3)=false from rfl,show ((7:Int)==4)=false from rfl,show ((7:Int)==5)=false from rfl,show ((7:Int)==6)=false from rfl,show ((7:Int)==7)=true from rfl,f1D];rw [b3G (by omega)];rfl
    rw [Y9 hb1,h7];rfl
   ·have hb1:=e7D hl he (by omega) hlt hlen R P hi h6 h7;rw [show (prog[k].a6==6)=false from by simpa using h6,show (prog[k].a6==7)=false from by simpa using h7,f1D,f1D];cases hall:(G2 l prog[k] regs rs ps).1.all G9
    ·rw [hall,f1D] at hb1;rw [Y9 hb1];rfl
    ·rw [hall,f1C] at hb1;rw [F7 hb1,f1C];exact ih _ _ _ _ (he.next hall) (by omega) (by omega)
  ·rw [d2r l (by omega)];exact stop k regs rs ps he (by omega) hk
theorem d9c{l:List q9}{prog:List r9}(hl:u5 l)(hp:u5 prog):b5X l prog=some (C5 l prog):=by
 unfold b5X C5;rw [b5o hl,e9M,b38 hp,e9M];cases hb:F6 l
 ·rfl
 cases ho:D6 prog
 ·rfl
 rw [e9S,f1D,f1D];exact e4b hb ho [] [] (prog.length+1) 0 [0,0,0,0] [] [] ei0 (by omega) (by omega)
end
theorem e8e{l:List q9}{i:r9}{regs:List Int}{rs:List s1}{ps:List p9}(hl:F6 l=true)(h4:regs.length=4)(hr:regs.all G9=true)(hi:M2 i=true)(h1:a3D rs=true)(h2:a1x ps=true):a3D (G2 l i regs rs ps).2.1=true/\a1x (G2 l i regs rs ps).2.2=true:=by
 unfold G2;cases k1:i.a6==1
 ·simp only [f1D];cases k2:i.a6==2
  ·simp only [f1D];cases i.a6==3
   ·cases i.a6==4
    ·cases i.a6==5<;>exact ⟨h1,h2⟩
    ·exact ⟨h1,h2⟩
   ·exact ⟨h1,h2⟩
  ·simp only [f1C];unfold M2 at hi;rw [k1,k2] at hi;simp only [f1C,f1D,e9R,H3] at hi;have hv:=a1O h4 hr hi.2.1;refine ⟨h1,?_⟩;cases hp:Y6 ps i.A with
   | some k=>
    have hk:=b2a hp;simp only [e9N hk];exact c5W h2 hk hv
   | none=>
    simp only;refine d3J h2 ⟨hi.1.1,hi.1.2,hv⟩ ?_;unfold R8;rw [f0u];intro x hx;have:=f1x.1 hp x hx;simpa using this
 ·simp only [f1C];unfold M2 at hi;rw [k1] at hi;simp only [f1C,e9R,H3] at hi;cases Y6 ps i.B with
  | some k=>
   simp only;cases ps[k]?<;>exact ⟨h1,h2⟩
  | none=>
   simp only;cases hb:l[i.B.toNat]? with
   | none=>exact ⟨h1,h2⟩
   | some b=>
    simp only;cases hs:L7 rs i.B
    ·obtain ⟨b',b1,_,b3⟩:=a39 hl hi.2.1;unfold idx at b1;rw [if_pos hi.2.1.1,hb] at b1;injection b1 with b1;subst b1;rw [b1T] at b3;exact ⟨c6i h1 ⟨hi.2.1.1,hi.2.1.2,b3.1⟩ hs,h2⟩
    ·exact ⟨h1,h2⟩
theorem c2b{l:List q9}(hl:F6 l=true){prog:List r9}(hi:∀i∈prog,M2 i=true):∀(f k c:Nat) (regs:List Int) (rs:List s1) (ps:List p9),regs.length=4->regs.all G9=true->a3D rs=true->a1x ps=true->rs.length<=c->ps.length<=c->c+f<=40->Ran (a0J l prog f k regs rs ps)
 | 0,k,c,regs,rs,ps,h4,hr,h1,h2,h5,h6,h7=>by
  have w:T6 ⟨rs,ps,0,0⟩ 40:=⟨rfl,h1,h2,by simp only;omega,by simp only;omega⟩
  exact b1H w (by omega) (.inl rfl) (fun _=>a1O h4 hr (a:=0) ⟨by omega,by omega⟩)
 | f+1,k,c,regs,rs,ps,h4,hr,h1,h2,h5,h6,h7=>by
  have w:∀c,T6 ⟨rs,ps,0,c⟩ 40:=fun c=>⟨rfl,h1,h2,by simp only;omega,by simp only;omega⟩
  unfold a0J;cases hk:prog[k]? with
  | none=>exact b1H (w 0) (by omega) (.inl rfl) (fun _=>a1O h4 hr (a:=0) ⟨by omega,by omega⟩)
  | some i=>
   have hin:=hi i (e93 hk);simp only;cases i.a6==6
   ·cases i.a6==7
    ·obtain ⟨a1,a2⟩:=e8e hl h4 hr hin h1 h2;have l4:=c00 (l:=l) (i:=i) (rs:=rs) (ps:=ps) h4;have lr:=d3E (l:=l) (i:=i) (regs:=regs) (ps:=ps) h5;have lp:=d0v (l:=l) (i:=i) (regs:=regs) (rs:=rs) h6;simp only [f1D];cases ha:(G2 l i regs rs ps).1.all G9
     ·have w2:T6 ⟨(G2 l i regs rs ps).2.1,(G2 l i regs rs ps).2.2,0,2⟩ 40:=⟨rfl,a1,a2,by simp only;omega,by simp only;omega⟩
      exact b1H w2 (by omega) (.inr (.inr rfl)) (v:=0) (fun q=>absurd (show (2:Int)=0 from q) (by decide))
     ·exact c2b hl hi f (k+1) (c+1) _ _ _ l4 ha a1 a2 lr lp (by omega)
    ·exact b1H (w 1) (by omega) (.inr (.inl rfl)) (v:=0) (fun q=>absurd (show (1:Int)=0 from q) (by decide))
   ·exact c2b hl hi f _ c _ _ _ h4 hr h1 h2 h5 h6 (by omega)
theorem e2F{l:List q9}{p:List r9}(hl:F6 l=true)(hp:u5 p):Ran (C5 l p):=by
 unfold C5;rw [hl,e95];cases hpo:D6 p
 ·exact (⟨by decide,by simp,by simp⟩:Ran ⟨[],[],0,3⟩)
 unfold D6 at hpo;simp only [e9R,decide_eq_true_eq] at hpo;exact c2b hl (e9W.1 hpo.2) _ 0 0 _ [] [] rfl (by decide) rfl rfl (by simp) (by simp) (by omega)
def a5n(l:List m5)(q:s3):Int:=match l.findIdx? (O0 q) with
 | some k=>(match l[k]? with|some e=>e.b9.d9|none=>0)
 | none=>0
def b1Q:List q9:=e9O 4 ⟨0,0⟩
theorem b3C:a3Q=some b1Q:=rfl
def e9F(a b:m6):Bool := !(decide (a.a8>0)&&((a.a8==b.a8) && !X1 a.g9 b.g9))
def other(a b:j8):Bool := !(decide (a.a8>0)&&(a.a8==b.a8))
def eN:m5:=⟨true,⟨0,0⟩,⟨[],[],0,0⟩⟩
def v0:m6:=⟨0,zE⟩
def a7E(b:Int):Bool:=q8 b 1 3000
def J2(a:v5)(b:Int):Option v5:=bif a7E b&&decide (a.i5<=b) then some ⟨b,a.a0⟩ else none
def U4(vs:List m6)(n:Nat):List m6:=vs++e9O (n-vs.length) v0
def O8(a:v5)(b slot:Int)(e:m5):Option v5:=
 bif q8 slot 0 39&&z6 e then (J2 a b).map fun x=>⟨x.i5,(U4 x.a0 (slot.toNat+1)).set slot.toNat ⟨b,e⟩⟩ else none
def E6:List m6->List m6->List m6
 | [],b=>b
 | a,[]=>a
 | x::a,y::b=>(bif decide (y.a8>x.a8) then y else x)::E6 a b
def N5(b who:Int):Int:=
 bif decide (b+1<=3000)&&(e9U (b+1) 3==who) then b+1 else
 bif decide (b+2<=3000)&&(e9U (b+2) 3==who) then b+2 else
 bif decide (b+3<=3000)&&(e9U (b+3) 3==who) then b+3 else -1
def a67(n:j8):j8:={n with f0:=0,a8:=0,c9:=[],i4:=[],c8:=zE,a0:=[]}
def a5J(n:j8):j8:={n with j3:=false,i7:=[],b8:=zE}
def M5(l:List m5)(q:s3):Bool:=l.any (O0 q)
def a79(id:Int):List Bool:=(e9O 3 false).set id.toNat true
def U6(l:List Bool):Bool:=decide (2<=(l.filter (· == true)).length)
def O3(id:Int)(m:j9):List j9:=(([0,1,2]:List Int).filter (· != id)).map fun t=>{m with c9:=id,To:=t}
def Z5(m out:j9):j9:={out with c9:=m.To,To:=m.c9}
def Y8(n:j8)(b:Int):j8:=bif n.f0 != 0&&decide (b>n.a8) then a67 n else n
def Q9(known:List m5):List m5->List m5×Option m5
 | []=>([],none)
 | e::q=>bif M5 known e.a5 then Q9 known q else (q,some e)
def a30(n:j8):j8×Option m5:=
 bif (n.i4.drop n.a7.length).any (fun v=>decide (v.a8>0)) then (n,some eN)
 else bif n.j3 && !M5 n.a7 n.b8.a5 then (n,some n.b8)
 else ({n with d6:=(Q9 n.a7 n.d6).1},(Q9 n.a7 n.d6).2)
def a1o(n:j8):j8×Option m5:=match n.i4[n.a7.length]? with
 | some v=>bif decide (v.a8>0) then (n,some v.g9) else a30 n
 | none=>a30 n
def a97(x:j8)(e:m5):j8×List j9:=match O8 x.Acc x.a8 (x.a7.length:Int) e with
 | some a=>({x with Acc:=a,f0:=3,c8:=e,a0:=a79 x.Id},O3 x.Id ⟨3,0,0,x.a8,(x.a7.length:Int),e,[]⟩)
 | none=>(a67 x,[])
def S4(n:j8):j8×List j9:=
 bif n.f0 != 2||decide (40<=n.a7.length) then (n,[]) else match a1o n with
  | (x,some e)=>a97 x e
  | (x,none)=>(x,[])
def V6(n:j8):j8×List o8:=
 bif n.j3 then (match n.a7.findIdx? (O0 n.b8.a5) with
  | some k=>(a5J n,[⟨n.Id,n.b8.a5,a0r n.a7 k,bif a0r n.a7 k==0 then a5n n.a7 n.b8.a5 else 0⟩])
  | none=>(n,[]))
 else (n,[])
def T5(n:j8)(e:m5):j8:=
 bif n.f0==3 then {n with a7:=n.a7++[e],f0:=2,c8:=zE,a0:=[]} else {n with a7:=n.a7++[e]}
def a05(n:j8)(e:m5):j8×List j9×List o8:=
 ((S4 (V6 (T5 n e)).1).1,(S4 (V6 (T5 n e)).1).2,(V6 (T5 n e)).2)
def a4G(n:j8)(m:j9):j8×List j9:=match J2 n.Acc m.a8 with
 | some a=>(Y8 {n with Acc:=a} m.a8,[Z5 m ⟨2,0,0,m.a8,m.g8,zE,a.a0.drop m.g8.toNat⟩])
 | none=>(n,[Z5 m ⟨6,0,0,n.Acc.i5,0,zE,[]⟩])
def a3V(n:j8)(m:j9):j8×List j9:=match O8 n.Acc m.a8 m.g8 m.g9 with
 | some a=>(Y8 {n with Acc:=a} m.a8,[Z5 m ⟨4,0,0,m.a8,m.g8,zE,[]⟩])
 | none=>(n,[Z5 m ⟨6,0,0,n.Acc.i5,0,zE,[]⟩])
def a4A(n:j8)(m:j9):j8×List j9:=
 bif n.f0 != 1||m.a8 != n.a8 then (n,[]) else
 bif U6 (n.c9.set m.c9.toNat true) then
  S4 {n with c9:=[],i4:=E6 n.i4 (e9O m.g8.toNat v0++m.a0),f0:=2}
 else ({n with c9:=n.c9.set m.c9.toNat true,i4:=E6 n.i4 (e9O m.g8.toNat v0++m.a0)},[])
def a6n(n:j8)(m:j9):j8×List j9×List o8:=
 bif n.f0 != 3||(m.a8 != n.a8||m.g8 != (n.a7.length:Int)) then (n,[],[]) else
 bif U6 (n.a0.set m.c9.toNat true) then
  ((a05 {n with a0:=n.a0.set m.c9.toNat true} n.c8).1,O3 n.Id ⟨5,0,0,0,(n.a7.length:Int),n.c8,[]⟩++(a05 {n with a0:=n.a0.set m.c9.toNat true} n.c8).2.1,(a05 {n with a0:=n.a0.set m.c9.toNat true} n.c8).2.2)
 else ({n with a0:=n.a0.set m.c9.toNat true},[],[])
def a50(n:j8)(m:j9):j8×List j9×List o8:=
 bif decide (m.g8<(n.a7.length:Int)) then (n,[],[]) else
 bif decide (m.g8>(n.a7.length:Int)) then (n,[Z5 m ⟨8,0,0,0,(n.a7.length:Int),zE,[]⟩],[])
 else a05 n m.g9
def a4h(n:j8)(m:j9):j8×List j9:=
 bif n.f0==0||(decide (4<=n.d6.length)||M5 n.a7 m.g9.a5) then (n,[]) else S4 {n with d6:=n.d6++[m.g9]}
def a1F(n:j8)(m:j9)(s:Nat):List j9:=match n.a7[s]? with
 | some e=>[Z5 m ⟨5,0,0,0,(s:Int),e,[]⟩]
 | none=>[]
def a54(n:j8)(m:j9):List j9:=((e9Y (n.a7.length-m.g8.toNat)).map fun j=>a1F n m (m.g8.toNat+j)).flatten
def a1K(n:j8)(m:j9):j8×List j9×List o8:=
 bif m.a6==1 then ((a4G n m).1,(a4G n m).2,[]) else
 bif m.a6==2 then ((a4A n m).1,(a4A n m).2,[]) else
 bif m.a6==3 then ((a3V n m).1,(a3V n m).2,[]) else
 bif m.a6==4 then a6n n m else
 bif m.a6==5 then a50 n m else
 bif m.a6==6 then (Y8 {n with Acc:=(J2 n.Acc m.a8).getD n.Acc} m.a8,[],[]) else
 bif m.a6==7 then ((a4h n m).1,(a4h n m).2,[]) else
 bif m.a6==8 then (n,a54 n m,[]) else (n,[],[])
def N9(n:j8)(prog:List r9):j8×List j9:=
 bif n.j3||(n.Seq==1000||(C5 (A2 n.a7).1.i0 prog).Code==3) then (n,[]) else
 bif n.f0==2 then S4 {n with Seq:=n.Seq+1,j3:=true,i7:=prog,b8:=⟨false,⟨n.Id,n.Seq+1⟩,C5 (A2 n.a7).1.i0 prog⟩}
 else ({n with Seq:=n.Seq+1,j3:=true,i7:=prog,b8:=⟨false,⟨n.Id,n.Seq+1⟩,C5 (A2 n.a7).1.i0 prog⟩},
  bif n.f0==0 then O3 n.Id ⟨7,0,0,0,0,⟨false,⟨n.Id,n.Seq+1⟩,C5 (A2 n.a7).1.i0 prog⟩,[]⟩ else [])
def a1W(n:j8):j8×List j9:=
 bif decide (N5 n.Acc.i5 n.Id<0) then (n,[]) else
 ({a67 n with Acc:=⟨N5 n.Acc.i5 n.Id,n.Acc.a0⟩,f0:=1,a8:=N5 n.Acc.i5 n.Id,c9:=a79 n.Id,i4:=n.Acc.a0},
  O3 n.Id ⟨1,0,0,N5 n.Acc.i5 n.Id,(n.a7.length:Int),zE,[]⟩)
def a0Z(n:j8):j8×List j9:=
 bif n.f0==1 then (n,O3 n.Id ⟨8,0,0,0,(n.a7.length:Int),zE,[]⟩++O3 n.Id ⟨1,0,0,n.a8,(n.a7.length:Int),zE,[]⟩) else
 bif n.f0==2 then ((S4 n).1,O3 n.Id ⟨8,0,0,0,(n.a7.length:Int),zE,[]⟩++(S4 n).2) else
 bif n.f0==3 then (n,O3 n.Id ⟨8,0,0,0,(n.a7.length:Int),zE,[]⟩++O3 n.Id ⟨3,0,0,n.a8,(n.a7.length:Int),n.c8,[]⟩) else
 bif n.j3 then (n,O3 n.Id ⟨8,0,0,0,(n.a7.length:Int),zE,[]⟩++O3 n.Id ⟨7,0,0,0,0,n.b8,[]⟩) else
 (n,O3 n.Id ⟨8,0,0,0,(n.a7.length:Int),zE,[]⟩)
def H5(id:Int):j8:=⟨id,⟨0,[]⟩,[],0,0,0,[],[],zE,[],false,[],zE,[]⟩
def a4d(n:j8):j8:={H5 n.Id with Acc:=n.Acc,a7:=n.a7,Seq:=n.Seq}
def a1u:m8:=⟨[H5 0,H5 1,H5 2],[],[],[]⟩
def a1m(w:m8)(l:List j9):m8:={w with d8:=w.d8++l.take (40-w.d8.length)}
def a7M(w:m8)(l:List o8):m8:={w with Told:=w.Told++l.take (60-w.Told.length)}
def a0b(w:m8)(i:Int)(n:j8):m8:={w with b7:=w.b7.set i.toNat n}
def a90(w:m8)(i:Int):m8:={w with d8:=w.d8.take i.toNat++w.d8.drop (i.toNat+1)}
def Q0(w:m8)(i:Int):j8:=w.b7.getD i.toNat (H5 0)
def a6m(w:m8)(i:Int)(prog:List r9):m8:=
 bif decide (60<=w.g7.length) then w else
 a1m (a0b (bif decide ((N9 (Q0 w i) prog).1.Seq>(Q0 w i).Seq) then {w with g7:=w.g7++[⟨(N9 (Q0 w i) prog).1.b8.a5,prog⟩]} else w) i (N9 (Q0 w i) prog).1) (N9 (Q0 w i) prog).2
def a2K(w:m8)(e:w9):m8:=bif decide (0<=e.A) then (match w.d8[e.A.toNat]? with
 | some m=>bif e.a6==4 then a1m w [m] else bif e.a6==3 then a90 w e.A else
  a7M (a1m (a0b (a90 w e.A) m.To (a1K (Q0 w m.To) m).1) (a1K (Q0 w m.To) m).2.1) (a1K (Q0 w m.To) m).2.2
 | none=>w) else w
def M4(w:m8)(e:w9):m8:=
 bif e.a6==2||(e.a6==3||e.a6==4) then a2K w e else
 bif !q8 e.A 0 2 then w else
 bif e.a6==1 then a6m w e.A e.i7 else
 bif e.a6==5 then a1m (a0b w e.A (a1W (Q0 w e.A)).1) (a1W (Q0 w e.A)).2 else
 bif e.a6==6 then a1m (a0b w e.A (a0Z (Q0 w e.A)).1) (a0Z (Q0 w e.A)).2 else
 bif e.a6==7 then a0b w e.A (a4d (Q0 w e.A)) else w
def a06(w:m8)(l:List w9):m8:=l.foldl M4 w
theorem Z0:C2 0:=⟨by decide,by decide⟩
theorem N7{α:Type}{b:Nat}{ok:α->Prop}:z9 b ok ([]:List α):=⟨by simp,fun x hx=>by cases hx⟩
theorem U8:E0 zE:=⟨⟨Z0,Z0⟩,N7,N7,Z0,Z0⟩
theorem c02:E0 eN:=⟨⟨Z0,Z0⟩,N7,N7,Z0,Z0⟩
theorem b6y:G3 v0:=⟨Z0,U8⟩
theorem a59{α R B:Type}{body:List α×Int->Option (l9 R (List α×Int) B)}(l:List α)(hl:u5 l)(f:List α->B)(h1:∀(k:Nat) (h:k<l.length),body (l.take k,(k:Int))=some (.nxt (l.take k++[l[k]],m4 ((k:Int)+1))))(h2:body (l,(l.length:Int))=some (.brk (f l))):s2 body ([],0)=some (.brk (f l)):=by
 have h:=a0n (body:=body) (fun k=>(l.take k,(k:Int))) l.length (by
  intro k hk;rw [h1 k hk,G0 hl hk,f0m hk])
 rw [show ((0:Nat):Int)=0 from rfl,f0t] at h;rw [h,f0o];exact D7 h2
theorem b4c{l:List m6}(h:z9 96 G3 l):a6R l=some l:=by
 have hf:u5 l:=h.fits (by decide);have hb:=h.1;unfold a6R;rw [a59 (body:=fun s:(List m6)×Int=>b20 l s.1 s.2) l hf (fun l=>l) (by
  intro k hk;unfold b20;rw [z0 _ k hk,u6 hk];simp only [f1C,e9M,a0l (h.2 _ (e9Q hk)).2];rw [t6 (by rw [f0e];omega)]) (by
  unfold b20;rw [B7];rfl)]
 rfl
theorem d6U{l:List m6}(h:z9 96 G3 l):b6x l=some (l,l):=by
 have hf:u5 l:=h.fits (by decide);have hb:=h.1;unfold b6x;rw [a59 (body:=fun s:(List m6)×Int=>b2O l s.1 s.2) l hf (fun l=>l) (by
  intro k hk;unfold b2O;rw [z0 _ k hk,u6 hk];simp only [f1C,e9M,a0l (h.2 _ (e9Q hk)).2];rw [t6 (by rw [f0e];omega)]) (by
  unfold b2O;rw [B7];rfl)]
 rfl
theorem d6I{e:m5}(h:E0 e):b8h e=some e:=by
 have h1:=h.2.1.1;have h2:=h.2.2.1.1;unfold b8h b8V;rw [t6 (by simp;omega),t6 (by simp;omega)];rfl
theorem d9U{l:List m6}(h:z9 96 G3 l):b78 l=some l:=by
 have hf:u5 l:=h.fits (by decide);have hb:=h.1;unfold b78;rw [a59 (body:=fun s:(List m6)×Int=>b0n l s.1 s.2) l hf (fun l=>l) (by
  intro k hk;unfold b0n;rw [z0 _ k hk,u6 hk];simp only [f1C,e9M,d6I (h.2 _ (e9Q hk)).2];rw [t6 (by rw [f0e];omega)]) (by
  unfold b0n;rw [B7];rfl)]
 rfl
theorem b4A{m:j9}(h:F9 m):a7A m=some m:=by
 unfold a7A;rw [a0l h.2.2.2.2.2.1,e9M,b4c h.2.2.2.2.2.2];rfl
theorem b0S{α:Type}{b:Nat}{ok:α->Prop}{l:List α}(h:z9 b ok l):(([]:List α).length+l.length)*b<=140737488355328:=by
 have:=h.1;simp only [f1w,f0y];omega
theorem a9h{n:j8}(h:P8 n):a2t n=some n:=by
 obtain ⟨h1,h2,h3,h4,h5,h6,h7,h8,h9,h10,h11,h12,h13⟩:=h;unfold a2t c2A;rw [b4c h2.2,e9M,e9M,d1r h3,e9M,t6 (b0S h7),b4c h8,e9M,a0l h9,e9M,t6 (b0S h10),t6 (b0S h11),a0l h12,e9M,d1r h13];rfl
theorem c1m{a:v5}{b:Int}:a9M a b=match J2 a b with|some _=>none|none=>some (a,false):=by
 unfold a9M J2 a7E;rw [a9z,e9M];cases q8 b 1 3000
 ·rfl
 ·by_cases h:b<a.i5
  ·simp [h,show ¬a.i5<=b by omega]
  ·simp [h,show a.i5<=b by omega]
theorem b3o{a:v5}{b:Int}:a5B a b=some (match J2 a b with|some x=>(x,true)|none=>(a,false)):=by
 unfold a5B J2 a7E;rw [a9z,e9M];cases q8 b 1 3000
 ·rfl
 ·by_cases h:b<a.i5
  ·simp [h,show ¬a.i5<=b by omega]
  ·simp [h,show a.i5<=b by omega]
theorem c5B{a:v5}{b s:Int}{e:m5}(he:E0 e):b3F a b s e=match O8 a b s e with|some _=>none|none=>some (a,false):=by
 unfold b3F O8;rw [a27 he.f,e9M,c1m];by_cases h1:s<0
 ·simp [h1,q8,show ¬(0<=s/\s<=39) by omega]
 ·by_cases h2:s>=40
  ·simp [h1,h2,q8,show ¬(0<=s/\s<=39) by omega]
  ·simp only [h1,h2,decide_false,f1D,q8,show (0<=s/\s<=39) by omega,and_self,decide_true,e95];cases z6 e
   ·rfl
   ·simp only [e9S,f1D,f1C];cases J2 a b<;>rfl
theorem d2T(slot:Nat)(hs:slot<40):∀(m:Nat) (vs:List m6),slot+1-vs.length=m->s2 (fun s:List m6=>a7N (slot:Int) s) vs=some (.brk (U4 vs (slot+1)))
 | 0,vs,h=>by
  refine D7 ?_;unfold a7N U4;rw [h,show decide ((vs.length:Int)<=(slot:Int))=false by simp;omega];simp
 | m+1,vs,h=>by
  have hb:a7N (slot:Int) vs=some (.nxt (vs++[v0])):=by
   unfold a7N;rw [show decide ((vs.length:Int)<=(slot:Int))=true by simp;omega,f1C,t6 (by omega)];rfl
  rw [F7 (body:=fun s:List m6=>a7N (slot:Int) s) hb,d2T slot hs m (vs++[v0]) (by simp;omega)];congr 2
  unfold U4;rw [h,e91,show slot+1-(vs.length+[v0].length)=m by simp;omega,e92];rfl
theorem c2t(vs:List m6)(n:Nat):(U4 vs n).length=max vs.length n:=by
 unfold U4;simp;omega
theorem c22{a:v5}{b s:Int}{e:m5}(he:E0 e):a8H a b s e=some (match O8 a b s e with|some x=>(x,true)|none=>(a,false)):=by
 unfold a8H O8;rw [a27 he.f,e9M,c1m,b3o,e9M];by_cases h1:s<0
 ·simp [h1,q8,show ¬(0<=s/\s<=39) by omega]
 ·by_cases h2:s>=40
  ·simp [h1,h2,q8,show ¬(0<=s/\s<=39) by omega]
  ·simp only [h1,h2,decide_false,f1D,q8,show (0<=s/\s<=39) by omega,and_self,decide_true,e95];cases z6 e
   ·rfl
   ·simp only [e9S,f1D,f1C];cases J2 a b with
    | none=>rfl
    | some x=>
     obtain ⟨k,rfl⟩:∃k:Nat,s=(k:Int):=⟨s.toNat,by omega⟩
     have hk:k<(U4 x.a0 (k+1)).length:=by rw [c2t];omega
     simp only [a4C,e9S,f1D,d2T k (by omega) _ _ rfl,e9M,l8.go,b9E,a0l he,u6 hk,f0K,f0h]
theorem b4J{n:j8}{q:s3}(h:u5 n.a7):a7V n q=some (M5 n.a7 q):=by
  unfold a7V;rw [show s2 (fun s:Int=>a9q n q s) 0=_ from c2d (body:=fun s:Int=>a9q n q s) n.a7 h (O0 q) (fun _=>true) () (by
      intro k hk;unfold a9q b8I O0;rw [z0 _ k hk,u6 hk];simp only [f1C,e9M];cases n.a7[k].i8<;>cases (([n.a7[k].a5.d7,n.a7[k].a5.Seq]:List Int)==[q.d7,q.Seq])<;>rfl) (by
      unfold a9q;rw [B7];rfl)]
  unfold M5;cases hf:n.a7.find? (O0 q) with
  | none=>
    have:n.a7.any (O0 q)=false:=by
      rw [f0u];intro x hx;exact List.find?_eq_none.1 hf x hx
    rw [this];rfl
  | some x=>
    have:n.a7.any (O0 q)=true:=f1a.2 ⟨x,List.mem_of_find?_eq_some hf,List.find?_some hf⟩;rw [this];rfl
def a0M(id:Int)(m:j9)(o:List j9)(t:Int):List j9:=bif t != id then o++[{m with c9:=id,To:=t}] else o
theorem c6e(id:Int)(m:j9)(o:List j9)(t:Int):(a0M id m o t).length<=o.length+1:=by
 unfold a0M;cases t != id<;>simp
theorem a6l{id:Int}(hid:0<=id/\id<=2){m:j9}(h:F9 m):a2G id m=some (O3 id m):=by
 have e:∀(o:List j9) (t:Int),o.length<=3->0<=t->t<3->a4e id m o t=some (.nxt (a0M id m o t,t+1)):=by
  intro o t ho ht0 ht;unfold a4e c2i a0M;rw [show decide (t<3)=true by simpa using ht,f1C,b4A h,e9M,t6 (by omega),B8 (by omega) (by omega)];cases t != id<;>rfl
 have l1:=c6e id m [] 0;have l2:=c6e id m (a0M id m [] 0) (0+1);have h0:=F7 (body:=fun s:(List j9)×Int=>a4e id m s.1 s.2) (s:=([],0)) (e [] 0 (by simp) (by omega) (by omega));have h1:=F7 (body:=fun s:(List j9)×Int=>a4e id m s.1 s.2) (s:=(a0M id m [] 0,0+1)) (e (a0M id m [] 0) (0+1) (by simp at l1;omega) (by omega) (by omega));have h2:=F7 (body:=fun s:(List j9)×Int=>a4e id m s.1 s.2) (s:=(a0M id m (a0M id m [] 0) (0+1),0+1+1)) (e (a0M id m (a0M id m [] 0) (0+1)) (0+1+1) (by simp at l1;omega) (by omega) (by omega));have h3:=D7 (body:=fun s:(List j9)×Int=>a4e id m s.1 s.2) (s:=(a0M id m (a0M id m (a0M id m [] 0) (0+1)) (0+1+1),0+1+1+1)) (show a4e id m _ (0+1+1+1)=_ from rfl);unfold a2G;rw [h0,h1,h2,h3];obtain rfl|rfl|rfl:id=0\/id=1\/id=2:=by omega
 all_goals rfl
theorem c5X:∀(l:List Bool) (hl:u5 l) (m k:Nat) (c:Int),k+m=l.length->0<=c->c<=k->s2 (fun s:Int×Int=>a3Z l s.1 s.2) (c,(k:Int))=some (.brk (c+(((l.drop k).filter (· == true)).length:Int)))
 | l,hl,0,k,c,hk,h0,h1=>by
  have:k=l.length:=by omega
  subst this;refine D7 ?_;show a3Z l c (l.length:Int)=_
  unfold a3Z;rw [B7];simp
 | l,hl,m+1,k,c,hk,h0,h1=>by
  have hlt:k<l.length:=by omega
  have hfl:(l.length:Int)<=140737488351232:=by have:=hl;unfold u5 at this;omega
  have hb:a3Z l c (k:Int)=some (.nxt (c+(bif l[k] then 1 else 0),((k+1:Nat):Int))):=by
   unfold a3Z c1o;rw [z0 _ k hlt,u6 hlt,f1C,e9M,G0 hl hlt];cases l[k]<;>simp only [f1C,f1D,e9M]<;>rw [B8 (by omega) (by omega)]
  rw [F7 (body:=fun s:Int×Int=>a3Z l s.1 s.2) hb,c5X l hl m (k+1) _ (by omega) (by cases l[k]<;>simp<;>omega) (by cases l[k]<;>simp<;>omega),e98 hlt];cases l[k]<;>simp
  omega
theorem d22{l:List Bool}(h:u5 l):b1r l=some (U6 l):=by
 unfold b1r;rw [show s2 (fun s:Int×Int=>a3Z l s.1 s.2) (0,0)=_ from c5X l h l.length 0 0 (by omega) (by omega) (by omega)];simp only [e9M,l8.go,c3j,U6,f0G];congr 1
 simp;omega
theorem d9t{l:List m6}{s:Int}(h:z9 96 G3 l)(hl:l.length<=40)(hs:0<=s/\s<=40):b5s l s=some (e9O s.toNat v0++l):=by
 unfold b5s;rw [t6 (by omega),b4c h,e9M,t6 (by simp;omega)];rfl
theorem a8L:∀a b:List m6,(E6 a b).length=max a.length b.length
 | [],b=>by simp [E6]
 | x::a,[]=>by simp [E6]
 | x::a,y::b=>by simp only [E6,f0D,a8L a b];omega
theorem b6f:∀(a b:List m6) (k:Nat),(E6 a b)[k]?=match a[k]?,b[k]? with
  | some x,some y=>some (bif decide (y.a8>x.a8) then y else x)
  | some x,none=>some x
  | none,some y=>some y
  | none,none=>none
 | [],b,k=>by simp [E6];cases b[k]?<;>rfl
 | x::a,[],k=>by simp [E6];cases (x::a)[k]?<;>rfl
 | x::a,y::b,0=>by simp [E6]
 | x::a,y::b,k+1=>by simp only [E6,f0Y];exact b6f a b k
theorem b36{a b:List m6}{v:m6}(h:v∈E6 a b):v∈a\/v∈b:=by
 obtain ⟨k,hk⟩:=f04 h;rw [b6f] at hk;cases ha:a[k]? with
 | none=>
  cases hb:b[k]? with
  | none=>rw [ha,hb] at hk;cases hk
  | some y=>rw [ha,hb] at hk;injection hk with hk;subst hk;exact .inr (e93 hb)
 | some x=>
  cases hb:b[k]? with
  | none=>rw [ha,hb] at hk;injection hk with hk;subst hk;exact .inl (e93 ha)
  | some y=>
   rw [ha,hb] at hk;simp only at hk;cases hd:decide (y.a8>x.a8)
   ·rw [hd] at hk;injection hk with hk;subst hk;exact .inl (e93 ha)
   ·rw [hd] at hk;injection hk with hk;subst hk;exact .inr (e93 hb)
theorem d8F{a b:List m6}(ha:z9 96 G3 a)(hb:z9 96 G3 b)(hla:a.length<=80)(hlb:b.length<=80)(hz:∀v∈b,v.a8<=0->v=v0):b4l a b=some (E6 a b):=by
 have hlen:=a8L a b;unfold b4l;rw [a59 (body:=fun s:(List m6)×Int=>a56 a b s.1 s.2) (E6 a b) (by unfold u5;omega) (fun l=>l) (by
  intro k hk;have hget:=b6f a b k;rw [e9N hk] at hget;have hent:∀v,v∈a\/v∈b->E0 v.g9:=fun v hv=>hv.elim (fun q=>(ha.2 v q).2) (fun q=>(hb.2 v q).2)
  have hj1:∀v:m6,E0 v.g9->b68 ((E6 a b).take k) (k:Int) v=some (.nxt ((E6 a b).take k++[v],m4 ((k:Int)+1))):=by
   intro v hv;unfold b68;rw [a0l hv,e9M,t6 (by rw [f0e];omega)]
  show a56 a b ((E6 a b).take k) (k:Int)=_
  have hkk:k<a.length\/k<b.length:=by omega
  have hstart:a56 a b ((E6 a b).take k) (k:Int)=b5L a b ((E6 a b).take k) (k:Int):=by
   unfold a56;by_cases h1:k<a.length
   ·rw [z0 _ k h1];rfl
   ·rw [show decide ((k:Int)<(a.length:Int))=false by simp;omega,z0 _ k (by omega)];rfl
  rw [hstart];unfold b5L;by_cases h1:k<a.length
  ·rw [z0 _ k h1,u6 h1];simp only [f1C,e9M,l8.go];unfold b61;rw [e9N h1] at hget;by_cases h2:k<b.length
   ·rw [z0 _ k h2,u6 h2];rw [e9N h2] at hget;simp only [f1C,e9M];injection hget with hget;rw [hget];cases decide (b[k].a8>a[k].a8)
    ·simp only [f1D,e9M,l8.go];exact hj1 _ (hent _ (.inl (e9Q h1)))
    ·simp only [f1C,e9M,l8.go];exact hj1 _ (hent _ (.inr (e9Q h2)))
   ·rw [show decide ((k:Int)<(b.length:Int))=false by simp;omega];rw [f0i (by omega)] at hget;injection hget with hget;rw [hget];simp only [f1D,e9M,l8.go];exact hj1 _ (hent _ (.inl (e9Q h1)))
  ·have h2:k<b.length:=by omega
   rw [show decide ((k:Int)<(a.length:Int))=false by simp;omega];simp only [f1D,e9M,l8.go];unfold b61;rw [z0 _ k h2,u6 h2];rw [f0i (by omega),e9N h2] at hget;injection hget with hget;rw [hget];simp only [f1C,e9M];by_cases h3:b[k].a8>0
   ·rw [show decide (b[k].a8>0)=true by simpa using h3];simp only [f1C,e9M,l8.go];exact hj1 _ (hent _ (.inr (e9Q h2)))
   ·have hv:=hz _ (e9Q h2) (by omega);rw [show decide (b[k].a8>0)=false by simpa using h3];simp only [f1D,e9M,l8.go];rw [hv];exact hj1 v0 U8) (by
  show a56 a b (E6 a b) ((E6 a b).length:Int)=_
  unfold a56;rw [show decide (((E6 a b).length:Int)<(a.length:Int))=false by simp;omega,show decide (((E6 a b).length:Int)<(b.length:Int))=false by simp;omega];rfl)]
 rfl
theorem d76{b who:Int}(hb:0<=b/\b<=3000)(hw:0<=who/\who<=2):b5i b who=some (N5 b who):=by
 have e:∀i:Int,1<=i->i<=3->a3c b who (b+i)=some (bif decide (b+i<=3000) then (bif e9U (b+i) 3==who then .ret (b+i) else .nxt (b+(i+1))) else .brk ()):=by
  intro i h1 h3;unfold a3c;rw [B8 (by omega) (by omega),show decide (b+i<=b+3)=true by simp;omega,f1C,B8 (by omega) (by omega),Int.add_assoc];cases decide (b+i<=3000)
  ·rfl
  ·cases e9U (b+i) 3==who<;>rfl
 have e4:a3c b who (b+4)=some (.brk ()):=by
  unfold a3c;rw [B8 (by omega) (by omega),show decide (b+4<=b+3)=false by simp];rfl
 have e1:=e 1 (by omega) (by omega);have e2:=e 2 (by omega) (by omega);have e3:=e 3 (by omega) (by omega);unfold b5i N5;rw [show decide (b<0)=false by simp;omega,show decide (b>3000)=false by simp;omega,show decide (who<0)=false by simp;omega,show decide (who>=3)=false by simp;omega,B8 (by omega) (by omega)];simp only [f1D];have hb4:s2 (fun s:Int=>a3c b who s) (b+4)=some (.brk ()):=D7 e4;have h3:s2 (fun s:Int=>a3c b who s) (b+3)=some (bif decide (b+3<=3000)&&(e9U (b+3) 3==who) then .ret (b+3) else .brk ()):=by
  cases q:decide (b+3<=3000)
  ·rw [q] at e3;exact D7 e3
  ·rw [q] at e3;cases t:e9U (b+3) 3==who
   ·rw [t] at e3;rw [F7 e3];exact hb4
   ·rw [t] at e3;exact Y9 e3
 have h2:s2 (fun s:Int=>a3c b who s) (b+2)=some (bif decide (b+2<=3000)&&(e9U (b+2) 3==who) then .ret (b+2) else bif decide (b+3<=3000)&&(e9U (b+3) 3==who) then .ret (b+3) else .brk ()):=by
  cases q:decide (b+2<=3000)
  ·rw [q] at e2;rw [show decide (b+3<=3000)=false by simp at q⊢;omega];exact D7 e2
  ·rw [q] at e2;cases t:e9U (b+2) 3==who
   ·rw [t] at e2;rw [F7 e2];exact h3
   ·rw [t] at e2;exact Y9 e2
 have h1:s2 (fun s:Int=>a3c b who s) (b+1)=some (bif decide (b+1<=3000)&&(e9U (b+1) 3==who) then .ret (b+1) else bif decide (b+2<=3000)&&(e9U (b+2) 3==who) then .ret (b+2) else bif decide (b+3<=3000)&&(e9U (b+3) 3==who) then .ret (b+3) else .brk ()):=by
  cases q:decide (b+1<=3000)
  ·rw [q] at e1;rw [show decide (b+2<=3000)=false by simp at q⊢;omega,show decide (b+3<=3000)=false by simp at q⊢;omega];exact D7 e1
  ·rw [q] at e1;cases t:e9U (b+1) 3==who
   ·rw [t] at e1;rw [F7 e1];exact h2
   ·rw [t] at e1;exact Y9 e1
 rw [h1];cases decide (b+1<=3000)&&(e9U (b+1) 3==who)<;>cases decide (b+2<=3000)&&(e9U (b+2) 3==who)<;>cases decide (b+3<=3000)&&(e9U (b+3) 3==who)<;>rfl
theorem w8{n:Int}(h:-1000000000<=n/\n<=1000000000):C2 n:=⟨by omega,by omega⟩
theorem S9{α:Type}{b:Nat}{ok:α->Prop}{l:List α}(hl:l.length*b<=1000000000)(h:∀x∈l,ok x):z9 b ok l:=⟨by omega,h⟩
theorem e6z{α:Type}{b:Nat}{ok:α->Prop}{l l':List α}(h:z9 b ok l)(hl:l'.length<=l.length)(hs:∀x∈l',x∈l):z9 b ok l':=
 ⟨f0c (f0b _ hl) h.1,fun x hx=>h.2 x (hs x hx)⟩
theorem c3F{l:List m5}{q:s3}:M5 l q=(l.findIdx? (O0 q)).isSome:=by
 unfold M5;cases h:l.findIdx? (O0 q) with
 | none=>
  rw [f1x] at h;rw [Option.isSome_none,f0u];intro x hx;rw [h x hx];simp
 | some k=>
  rw [f0T] at h;obtain ⟨hk,h1,_⟩:=h;rw [Option.isSome_some];exact f1a.2 ⟨l[k],e9Q hk,h1⟩
theorem d4E{n:j8}(h:z9 88 E0 n.a7)(hok:M6 n.a7=true):b5M n=some (V6 n):=by
 obtain ⟨hl,he⟩:=a76 hok;have hf:u5 n.a7:=h.fits (by decide);unfold b5M V6;rw [b4J hf,e9M,c3F];cases n.j3
 ·rfl
 simp only [e9S,f1D,f1C];cases hfi:n.a7.findIdx? (O0 n.b8.a5) with
 | none=>rfl
 | some kk=>
 simp only [Option.isSome_some,e9S,f1D,d3K,e9M];have:=b8x (body:=fun s:(List q9)×Int×Int×List s6=>a9p n s.1 s.2.1 s.2.2.1 s.2.2.2) (fun k=>((A2 (n.a7.take k)).1.i0,(k:Int),(A2 (n.a7.take k)).1.At,(A2 (n.a7.take k)).1.i9)) n.a7 (O0 n.b8.a5) (fun k=>(a5J n,[⟨n.Id,n.b8.a5,a0r n.a7 k,bif a0r n.a7 k==0 then (match n.a7[k]? with|some e=>e.b9.d9|none=>0) else 0⟩])) () (by
   intro k hk;obtain ⟨h1,h2,h3⟩:=a4N hl he k (by omega);unfold a9p c0u O0 a0r;rw [z0 _ k hk,u6 hk,d3I hl he hk,a65 hk,<-G0 hf hk,e9N hk];simp only [f1C,e9M];rw [show (⟨(A2 (n.a7.take k)).1.At,(A2 (n.a7.take k)).1.i0,(A2 (n.a7.take k)).1.i9⟩:u9)=(A2 (n.a7.take k)).1 from rfl,c7G h1 (by omega) (e9W.1 he _ (e9Q hk)) (h.2 _ (e9Q hk)).f,e9M];cases n.a7[k].i8<;>cases (([n.a7[k].a5.d7,n.a7[k].a5.Seq]:List Int)==[n.b8.a5.d7,n.b8.a5.Seq])<;>first|rfl|skip
   simp only [f1D,e9S,e97,e95,f1C,f0U];cases ((apply (A2 (n.a7.take k)).1 n.a7[k]).2==0)<;>rfl) (by
   unfold a9p;rw [B7];rfl)
 rw [f0t,hfi] at this;rw [show s2 (fun s:(List q9)×Int×Int×List s6=>a9p n s.1 s.2.1 s.2.2.1 s.2.2.2) (U3.i0,0,U3.At,U3.i9)=_ from this];simp only [e9M,l8.go,a5n,hfi];all_goals rfl
theorem d89{l:List m6}(hf:u5 l)(k:Nat):b7Z l (k:Int)=some ((l.drop k).any fun v=>decide (v.a8>0)):=by
 have key:∀(m k:Nat),l.length-k=m->s2 (fun s:Int=>a63 l s) (k:Int)=some (bif (l.drop k).any (fun v=>decide (v.a8>0)) then .ret true else .brk ()):=by
  intro m;induction m with
  | zero=>
   intro k hk;rw [e94 (by omega)];refine D7 ?_;unfold a63;rw [show decide ((k:Int)<(l.length:Int))=false by simp;omega];rfl
  | succ m ih=>
   intro k hk;have hlt:k<l.length:=by omega
   rw [e98 hlt,List.any_cons];cases hd:decide (l[k].a8>0)
   ·rw [F7 (body:=fun s:Int=>a63 l s) (t:=((k+1:Nat):Int)) (by
     unfold a63;rw [z0 _ k hlt,u6 hlt,f1C,e9M,hd,G0 hf hlt];rfl),ih (k+1) (by omega),f0p]
   ·refine Y9 ?_;unfold a63;rw [z0 _ k hlt,u6 hlt,f1C,e9M,hd];rfl
 unfold b7Z;rw [key _ k rfl];cases (l.drop k).any fun v=>decide (v.a8>0)<;>rfl
theorem c7k(n:j8)(hk:u5 n.a7):∀(q:List m5),z9 88 E0 q->s2 (fun s:List m5=>a9J n s) q=some (match Q9 n.a7 q with
  | (q',some e)=>.ret ({n with d6:=q'},e,true)
  | (q',none)=>.brk q')
 | [],h=>D7 rfl
 | e::q,h=>by
  have hb:=h.1;rw [f0D,f0A] at hb;have h':z9 88 E0 q:=⟨by omega,fun x hx=>h.2 x (f1s _ hx)⟩
  have ht:(([]:List m5)++((e::q).drop (0+(1:Int).toNat)).take ((e::q).length-(1:Int).toNat))=q:=by
   simp
  have hs:a9J n (e::q)=some (bif M5 n.a7 e.a5 then .nxt q else .ret ({n with d6:=q},e,true)):=by
   unfold a9J;rw [show decide (((e::q).length:Int)>0)=true by simp,f1C,show idx (e::q) 0=some e from rfl,e9M,t6 (by simp;omega),t6 (by simp;omega),ht,b4J (n:={n with d6:=q}) hk,e9M];cases M5 n.a7 e.a5<;>rfl
  unfold Q9;cases hd:M5 n.a7 e.a5
  ·rw [hd] at hs;exact Y9 hs
  ·rw [hd] at hs;rw [F7 (body:=fun s:List m5=>a9J n s) hs];exact c7k n hk q h'
def b5q(x:j8×Option m5):j8×m5×Bool:=match x with
 | (n,some e)=>(n,e,true)
 | (n,none)=>(n,zE,false)
theorem e1n{n:j8}(h:P8 n):b8d n=some (b5q (a1o n)):=by
 obtain ⟨h1,h2,h3,h4,h5,h6,h7,h8,h9,h10,h11,h12,h13⟩:=h;have hk:u5 n.a7:=h3.fits (by decide);have j1:b6c n=some (b5q ({n with d6:=(Q9 n.a7 n.d6).1},(Q9 n.a7 n.d6).2)):=by
  unfold b6c;rw [c7k n hk _ h13];obtain ⟨q,o⟩:=Q9 n.a7 n.d6;cases o<;>rfl
 have j2:b4V n=some (b5q (a30 n)):=by
  unfold b4V a30;rw [d89 (h8.fits (by decide)),e9M,b4J hk,a0l h12];generalize (({n with d6:=(Q9 n.a7 n.d6).1},(Q9 n.a7 n.d6).2):j8×Option m5)=X at j1⊢;cases (n.i4.drop n.a7.length).any fun v=>decide (v.a8>0)
  ·simp only [f1D];cases n.j3
   ·exact j1
   ·cases M5 n.a7 n.b8.a5
    ·rfl
    ·exact j1
  ·rfl
 unfold b8d a1o;by_cases hl:n.a7.length<n.i4.length
 ·rw [z0 _ _ hl,u6 hl,e9N hl];simp only [f1C,e9M];cases decide (n.i4[n.a7.length].a8>0)
  ·exact j2
  ·simp only [f1C,a0l (h8.2 _ (e9Q hl)).2,e9M,l8.go];rfl
 ·rw [show decide ((n.a7.length:Int)<(n.i4.length:Int))=false by simp;omega,f0i (by omega)];exact j2
theorem d0h(known:List m5):∀(q:List m5),(Q9 known q).1.length<=q.length/\(∀x∈(Q9 known q).1,x∈q)/\∀e,(Q9 known q).2=some e->e∈q/\M5 known e.a5=false/\(Q9 known q).1.length<q.length
 | []=>⟨f0q _,fun x hx=>hx,fun e he=>by cases he⟩
 | e::q=>by
  unfold Q9;cases hk:M5 known e.a5
  ·refine ⟨by simp,fun x hx=>by simpa using .inr hx,fun e' he => ?_⟩;injection he with he;subst he;exact ⟨by simp,hk,by simp⟩
  ·obtain ⟨a,b,c⟩:=d0h known q;refine ⟨by simp only [f1C,f0D];omega,fun x hx=>f1s _ (b x hx),fun e' he => ?_⟩;obtain ⟨x,y,z⟩:=c e' he;exact ⟨f1s _ x,y,by simp only [f1C,f0D];omega⟩
inductive a3r (n:j8):m5->Prop
 | best (v) (h:n.i4[n.a7.length]?=some v) (hb:v.a8>0):a3r n v.g9
 | gap (v) (h:v∈n.i4.drop n.a7.length) (hb:v.a8>0) (hn:∀v,n.i4[n.a7.length]?=some v->¬v.a8>0):a3r n eN
 | want (h:n.j3=true) (hk:M5 n.a7 n.b8.a5=false) (hn:∀v∈n.i4.drop n.a7.length,¬v.a8>0):a3r n n.b8
 | queue (e) (h:e∈n.d6) (hk:M5 n.a7 e.a5=false) (hn:∀v∈n.i4.drop n.a7.length,¬v.a8>0):a3r n e
theorem b6Q(n:j8):∃q:List m5,(a1o n).1={n with d6:=q}/\q.length<=n.d6.length/\(∀x∈q,x∈n.d6)/\∀e,(a1o n).2=some e->a3r n e:=by
 have rest:(∀v,n.i4[n.a7.length]?=some v->¬v.a8>0)->∃q:List m5,(a30 n).1={n with d6:=q}/\q.length<=n.d6.length/\(∀x∈q,x∈n.d6)/\∀e,(a30 n).2=some e->a3r n e:=by
  intro hn;unfold a30;cases ha:(n.i4.drop n.a7.length).any fun v=>decide (v.a8>0)
  ·have hnv:∀v∈n.i4.drop n.a7.length,¬v.a8>0:=fun v hv=>by simpa using f0u.1 ha v hv
   cases hb:n.j3 && !M5 n.a7 n.b8.a5
   ·obtain ⟨a,b,c⟩:=d0h n.a7 n.d6;exact ⟨_,rfl,a,b,fun e he=>.queue e (c e he).1 (c e he).2.1 hnv⟩
   ·simp only [e9R,f0J] at hb;refine ⟨n.d6,rfl,f0q _,fun _ h=>h,fun e he => ?_⟩;injection he with he;subst he;exact .want hb.1 hb.2 hnv
  ·obtain ⟨v,hv,hb⟩:=f1a.1 ha;refine ⟨n.d6,rfl,f0q _,fun _ h=>h,fun e he => ?_⟩;injection he with he;subst he;exact .gap v hv (by simpa using hb) hn
 unfold a1o;cases hg:n.i4[n.a7.length]? with
 | none=>exact rest (by rw [hg];simp)
 | some v=>
  simp only;cases hb:decide (v.a8>0)
  ·exact rest (by rw [hg];intro w hw;injection hw with hw;subst hw;simpa using hb)
  ·refine ⟨n.d6,rfl,f0q _,fun _ h=>h,fun e he => ?_⟩;injection he with he;subst he;exact .best v hg (by simpa using hb)
theorem a3r.ok{n:j8}(h:P8 n){e:m5}(hn:a3r n e):E0 e:=by
 cases hn with
 | best v hv hb=>exact (h.2.2.2.2.2.2.2.1.2 v (e93 hv)).2
 | gap=>exact c02
 | want=>exact h.2.2.2.2.2.2.2.2.2.2.2.1
 | queue e hq=>exact h.2.2.2.2.2.2.2.2.2.2.2.2.2 e hq
theorem a8k{k b s:Int}{e:m5}{vs:List m6}(hk:C2 k)(hb:C2 b)(hs:C2 s)(he:E0 e)(hv:z9 96 G3 vs):F9 ⟨k,0,0,b,s,e,vs⟩:=⟨hk,Z0,Z0,hb,hs,he,hv⟩
theorem c2f{id:Int}(h:0<=id/\id<=2):∃y,idx (e9O (3:Int).toNat false) id=some y:=by
 obtain rfl|rfl|rfl:id=0\/id=1\/id=2:=by omega
 all_goals exact ⟨false,rfl⟩
theorem b0V{n:j8}(h:P8 n)(hid:0<=n.Id/\n.Id<=2):a5t n=some (S4 n):=by
 unfold a5t S4;rw [show decide ((n.a7.length:Int)>=40)=decide (40<=n.a7.length) by simp;omega];cases n.f0 != 2
 ·simp only [f1D,f0p];cases hlt:decide (40<=n.a7.length)
  ·simp only [f1D,e1n h,e9M];obtain ⟨q,hq,hql,hqm,hqe⟩:=b6Q n;cases hx:a1o n with
   | mk x o=>
   rw [hx] at hq hqe;have hq:x={n with d6:=q}:=hq;cases o with
   | none=>rfl
   | some e=>
    have he:=(hqe e rfl).ok h;have hlen:n.a7.length<40:=by simpa using hlt
    subst hq;simp only [b5q,e9S,f1D,c5B he,c22 he,a97];cases O8 n.Acc n.a8 (n.a7.length:Int) e with
    | none=>rfl
    | some a=>
     obtain ⟨y,hy⟩:=c2f hid;simp only [a4C,e9M,e9S,f1D,a0l he,hy];rw [t6 (by omega),a6l hid (a8k (w8 (by omega)) h.2.2.2.2.2.1 (w8 (by omega)) he N7)];rfl
  ·rfl
 ·rfl
theorem d7t{n:j8}(h:P8 n):P8 (a5J n):=by
 obtain ⟨h1,h2,h3,h4,h5,h6,h7,h8,h9,h10,h11,h12,h13⟩:=h;exact ⟨h1,h2,h3,h4,h5,h6,h7,h8,h9,h10,N7,U8,h13⟩
theorem d34{n:j8}(h:P8 n){e:m5}(he:E0 e)(hl:n.a7.length<=40):P8 (T5 n e):=by
 obtain ⟨h1,h2,h3,h4,h5,h6,h7,h8,h9,h10,h11,h12,h13⟩:=h;have hk:z9 88 E0 (n.a7++[e]):=S9 (by simp;omega) (by
  intro x hx;rcases e9P.1 hx with q|q
  ·exact h3.2 x q
  ·rw [e9Z.1 q];exact he)
 unfold T5;cases n.f0==3
 ·exact ⟨h1,h2,hk,h4,h5,h6,h7,h8,h9,h10,h11,h12,h13⟩
 ·exact ⟨h1,h2,hk,h4,w8 (n:=2) (by omega),h6,h7,h8,U8,N7,h11,h12,h13⟩
theorem b65(n:j8):(V6 n=(n,[]))\/∃k,n.j3=true/\n.a7.findIdx? (O0 n.b8.a5)=some k/\V6 n=(a5J n,[⟨n.Id,n.b8.a5,a0r n.a7 k,bif a0r n.a7 k==0 then a5n n.a7 n.b8.a5 else 0⟩]):=by
 unfold V6;cases n.j3
 ·exact .inl rfl
 ·cases h:n.a7.findIdx? (O0 n.b8.a5) with
  | none=>exact .inl rfl
  | some k=>exact .inr ⟨k,rfl,rfl,rfl⟩
theorem e59{n:j8}(h:P8 n):P8 (V6 n).1:=by
 rcases b65 n with q|⟨k,_,_,q⟩<;>rw [q]
 ·exact h
 ·exact d7t h
theorem d1X(n:j8):(V6 n).1.Id=n.Id:=by
 rcases b65 n with q|⟨k,_,_,q⟩<;>rw [q];rfl
theorem c5K(n:j8)(e:m5):(T5 n e).Id=n.Id:=by
 unfold T5;cases n.f0==3<;>rfl
theorem d3S(n:j8)(e:m5):(T5 n e).a7=n.a7++[e]:=by
 unfold T5;cases n.f0==3<;>rfl
theorem c7m{n:j8}(h:P8 n)(hid:0<=n.Id/\n.Id<=2)(hk:M6 n.a7=true)(hl:n.a7.length<40){e:m5}(he:E0 e)(hok:z6 e=true):b2k n e=some (a05 n e):=by
 have hkn:=d34 h he (by omega);have hko:M6 (T5 n e).a7=true:=by
  rw [d3S];obtain ⟨a,b⟩:=a76 hk;unfold M6;simp only [e91,f0M,List.all_append,List.all_cons,List.all_nil,b,hok,f0P,f1u,decide_eq_true_eq];omega
 have hj:∀(p:Int) (c:m5) (vs:List Bool),(⟨n.Id,n.Acc,n.a7++[e],n.Seq,p,n.a8,n.c9,n.i4,c,vs,n.j3,n.i7,n.b8,n.d6⟩:j8)=T5 n e->b7Y n e vs c.a5.d7 c.a5.Seq c.b9.a9 c.b9.b6 c.b9.d9 c.b9.Code p c.i8=some (a05 n e):=by
  intro p c vs hq;unfold b7Y;rw [show (j8.mk n.Id n.Acc (n.a7++[e]) n.Seq p n.a8 n.c9 n.i4 (m5.mk c.i8 (s3.mk c.a5.d7 c.a5.Seq) (m9.mk c.b9.a9 c.b9.b6 c.b9.d9 c.b9.Code)) vs n.j3 n.i7 n.b8 n.d6)=T5 n e from hq,d4E hkn.2.2.1 hko,e9M,b0V (e59 hkn) (by rw [d1X,c5K];exact hid),e9M];rfl
 unfold b2k;rw [a0l he,e9M,t6 (by omega)];cases hp:n.f0==3
 ·exact hj n.f0 n.c8 n.a0 (by unfold T5;rw [hp];rfl)
 ·exact hj 2 zE [] (by unfold T5;rw [hp];rfl)
theorem d5m{r:m9}(h:T0 r=true):r.a9.length<=4:=by
 have h0:a3D r.a9=true:=by
  rw [b2E] at h;simp only [e9R] at h;exact h.2.2.2.2.1
 obtain ⟨h1,h2⟩:=d0L.1 h0;let ps:List p9:=r.a9.map fun x=>⟨x.i6,0⟩
 have hp:∀p∈ps,a2N p:=by
  intro p hp;obtain ⟨x,hx,rfl⟩:=f0l.1 hp;exact ⟨(h1 x hx).1,(h1 x hx).2.1,by simp,by simp⟩
 have hpw:ps.Pairwise fun p q=>p.i6≠q.i6:=List.pairwise_map.2 h2
 have hl:=c2l hp;have a:=a5w hpw 0;have b:=a5w hpw 1;have c:=a5w hpw 2;have d:=a5w hpw 3;have:ps.length=r.a9.length:=f0X ..;omega
theorem e32{r:m9}(h:a3e r ⟨[],[],0,0⟩=true):r=⟨[],[],0,0⟩:=(c2k _ _).1 h
theorem e8O{e:m5}(h:z6 e=true)(hn:e.i8=true):e=eN:=by
 unfold z6 at h;rw [hn] at h;simp only [f1C,e9R,beq_iff_eq,List.cons.injEq,and_true] at h;obtain ⟨⟨h1,h2⟩,h3⟩:=h;have h4:=e32 h3;clear h3;obtain ⟨n,⟨a,b⟩,r⟩:=e;simp only at hn h1 h2 h4;subst hn h1 h2 h4;rfl
theorem d1Z{r:m9}(h:T0 r=true):b73 r:=by
 obtain ⟨h1,h2,_,h4,h5⟩:=a7u h;have r4:=d5m h;have p4:=d9u h;exact ⟨S9 (by omega) fun x hx=>by have:=h4 x hx;exact ⟨w8 (by omega),w8 (by omega)⟩,
  S9 (by omega) fun x hx=>by have:=h5 x hx;exact ⟨w8 (by omega),w8 (by omega)⟩,w8 (by omega),w8 (by omega)⟩
theorem a19{e:m5}(h:z6 e=true):E0 e:=by
 cases hn:e.i8 with
 | true=>rw [e8O h hn];exact c02
 | false=>
  obtain ⟨h1,h2,h3,_⟩:=a8v h hn;exact ⟨⟨w8 (by omega),w8 (by omega)⟩,d1Z h3⟩
theorem d0Y{l:List m5}(hl:l.length<=1000)(h:∀e∈l,z6 e=true):z9 88 E0 l:=S9 (by omega) fun e he=>a19 (h e he)
def VI(v:m6):Prop:=v=v0\/(1<=v.a8/\v.a8<=3000/\z6 v.g9=true)
theorem d4D{v:m6}:Z8 v=true↔VI v:=by
 unfold Z8 VI;by_cases hb:v.a8=0
 ·simp only [hb,beq_self_eq_true,f1C,a4S];constructor
  ·intro h;left;obtain ⟨b,e⟩:=v;simp only at hb h;subst hb h;rfl
  ·rintro (h|h)
   ·rw [h];rfl
   ·omega
 ·have:(v.a8==0)=false:=by simpa using hb
  simp only [this,f1D,e9R,H3];constructor
  ·intro h;exact .inr ⟨h.1.1,h.1.2,h.2⟩
  ·rintro (h|h)
   ·rw [h] at hb;exact absurd rfl hb
   ·exact ⟨⟨h.1,h.2.1⟩,h.2.2⟩
theorem VI.ok{v:m6}(h:VI v):G3 v:=by
 rcases h with rfl|⟨h1,h2,h3⟩
 ·exact b6y
 ·exact ⟨w8 (by omega),a19 h3⟩
theorem VI.bal{v:m6}(h:VI v):0<=v.a8/\v.a8<=3000:=by
 rcases h with rfl|⟨h1,h2,h3⟩
 ·exact ⟨by decide,by decide⟩
 ·exact ⟨by omega,h2⟩
theorem VI.zero{v:m6}(h:VI v)(hb:v.a8<=0):v=v0:=by
 rcases h with rfl|⟨h1,_⟩
 ·rfl
 ·omega
theorem VI.pos{v:m6}(h:VI v)(hb:v.a8>0):z6 v.g9=true:=by
 rcases h with rfl|⟨_,_,h⟩
 ·exact absurd hb (by decide)
 ·exact h
theorem a2Z{l:List m6}(hl:l.length<=1000)(h:∀v∈l,VI v):z9 96 G3 l:=S9 (by omega) fun v hv=>(h v hv).ok
theorem a7G{l:List m6}:K4 l=true↔l.length<=40/\∀v∈l,VI v:=by
 unfold K4;simp only [e9R,decide_eq_true_eq,e9W,d4D]
structure e3q(id bal pr:Int)(best:List m6):Prop where
 b1:1<=bal
 b2:bal<=3000
 mod:e9U bal 3=id
 pr:bal<=pr
 bl:best.length<=40
 bs:∀v∈best,VI v
abbrev Own(n:j8):Prop:=e3q n.Id n.a8 n.Acc.i5 n.i4
def a1f(n:j8):Prop:=
 (n.f0=0/\n.a8=0/\n.c9=[]/\n.i4=[]/\n.c8=zE/\n.a0=[])\/
 (n.f0=1/\Own n/\n.c9.length=3/\n.c9[n.Id.toNat]?=some true/\n.c8=zE/\n.a0=[])\/
 (n.f0=2/\Own n/\n.c9=[]/\n.c8=zE/\n.a0=[])\/
 (n.f0=3/\Own n/\n.c9=[]/\z6 n.c8=true/\n.a0.length=3/\n.a0[n.Id.toNat]?=some true/\n.a7.length<40)
def c0L(n:j8):Prop:=
 (n.j3=true/\D6 n.i7=true/\z6 n.b8=true/\n.b8.i8=false/\n.b8.a5=⟨n.Id,n.Seq⟩)\/(n.j3=false/\n.i7=[]/\n.b8=zE)
structure NI(n:j8):Prop where
 id:0<=n.Id/\n.Id<=2
 pr:0<=n.Acc.i5/\n.Acc.i5<=3000
 vl:n.Acc.a0.length<=40
 vs:∀v∈n.Acc.a0,VI v/\v.a8<=n.Acc.i5
 kl:n.a7.length<=40
 ks:∀e∈n.a7,z6 e=true
 sq:0<=n.Seq/\n.Seq<=1000
 ql:n.d6.length<=4
 qs:∀e∈n.d6,z6 e=true/\e.i8=false
 ld:a1f n
 wt:c0L n
theorem b06{α:Type}{l:List α}:((l.length:Int)==0)=true↔l=[]:=by
 rw [beq_iff_eq];constructor
 ·intro h;exact e90 (by omega)
 ·rintro rfl;rfl
theorem e1d{α:Type}{l:List α}:((l.length:Int)=0)↔l=[]:=by rw [<-b06,beq_iff_eq]
theorem c4t{l:List Bool}{id:Int}(h:0<=id/\id<=2):a37 l id=true↔l.length=3/\l[id.toNat]?=some true:=by
 unfold a37 b34;have e:idx l id=l[id.toNat]?:=by unfold idx;rw [if_pos h.1]
 rw [e,e9R,beq_iff_eq];constructor
 ·rintro ⟨h1,h2⟩
  refine ⟨by omega,?_⟩;cases hq:l[id.toNat]? with
  | none=>rw [hq] at h2;cases h2
  | some b=>rw [hq] at h2;simp at h2;rw [h2]
 ·rintro ⟨h1,h2⟩
  exact ⟨by omega,by rw [h2];rfl⟩
theorem c28{n:j8}:a3v n=true↔n.c8=zE/\n.a0=[]:=by
 unfold a3v;rw [e9R,a4S,b06]
theorem c9i{n:j8}(hid:0<=n.Id/\n.Id<=2):a04 n=true↔a1f n:=by
 have hown:(X8 n.a8==n.Id)=true/\n.a8<=n.Acc.i5/\K4 n.i4=true↔Own n:=by
  rw [a7G];constructor
  ·rintro ⟨h1,h2,h3⟩
   have hb:=H3.1 (c77 (H3.2 hid) h1);unfold X8 at h1;rw [H3.2 hb] at h1;exact ⟨hb.1,hb.2,by simpa using h1,h2,h3.1,h3.2⟩
  ·intro h;refine ⟨?_,h.pr,h.bl,h.bs⟩;unfold X8;rw [H3.2 ⟨h.b1,h.b2⟩];simpa using h.mod
 unfold a04 a1f;by_cases p0:n.f0=0
 ·simp only [p0,beq_self_eq_true,f1C,e9R,c28,beq_iff_eq,e1d];constructor
  ·rintro ⟨a,b,c,d,e⟩;exact .inl ⟨trivial,a,b,c,d,e⟩
  ·rintro (h|h|h|h)
   ·exact ⟨h.2.1,h.2.2.1,h.2.2.2.1,h.2.2.2.2.1,h.2.2.2.2.2⟩
   all_goals exact absurd h.1 (by omega)
 ·have q0:(n.f0==0)=false:=by simpa using p0
  simp only [q0,f1D,e9R,decide_eq_true_eq];rw [<-and_assoc,<-and_assoc,and_assoc (a:=(X8 n.a8==n.Id)=true),hown];by_cases p1:n.f0=1
  ·simp only [p1,beq_self_eq_true,f1C,e9R,c4t hid,c28];constructor
   ·rintro ⟨a,⟨b,c⟩,d,e⟩;exact .inr (.inl ⟨trivial,a,b,c,d,e⟩)
   ·rintro (h|h|h|h)
    ·exact absurd h.1 (by omega)
    ·exact ⟨h.2.1,⟨h.2.2.1,h.2.2.2.1⟩,h.2.2.2.2.1,h.2.2.2.2.2⟩
    all_goals exact absurd h.1 (by omega)
  ·have q1:(n.f0==1)=false:=by simpa using p1
   by_cases p2:n.f0=2
   ·have q2:(n.f0==2)=true:=by simpa using p2
    simp only [q1,q2,f1C,f1D,e9R,b06,c28];constructor
    ·rintro ⟨a,b,c,d⟩;exact .inr (.inr (.inl ⟨p2,a,b,c,d⟩))
    ·rintro (h|h|h|h)
     ·exact absurd h.1 (by omega)
     ·exact absurd h.1 (by omega)
     ·exact ⟨h.2.1,h.2.2.1,h.2.2.2.1,h.2.2.2.2⟩
     ·exact absurd h.1 (by omega)
   ·have q2:(n.f0==2)=false:=by simpa using p2
    by_cases p3:n.f0=3
    ·have q3:(n.f0==3)=true:=by simpa using p3
     simp only [q1,q2,q3,f1C,f1D,e9R,b06,c4t hid,decide_eq_true_eq];constructor
     ·rintro ⟨a,b,c,⟨d,e⟩,f⟩;exact .inr (.inr (.inr ⟨p3,a,b,c,d,e,by omega⟩))
     ·rintro (h|h|h|h)
      ·exact absurd h.1 (by omega)
      ·exact absurd h.1 (by omega)
      ·exact absurd h.1 (by omega)
      ·exact ⟨h.2.1,h.2.2.1,h.2.2.2.1,⟨h.2.2.2.2.1,h.2.2.2.2.2.1⟩,by omega⟩
    ·have q3:(n.f0==3)=false:=by simpa using p3
     simp only [q1,q2,q3,f1D,f0O,and_false,false_iff];rintro (h|h|h|h)<;>omega
theorem c8o{a b:s3}:(([a.d7,a.Seq]:List Int)==[b.d7,b.Seq])=true↔a=b:=by
 obtain ⟨a1,a2⟩:=a;obtain ⟨b1,b2⟩:=b;simp
theorem c36{n:j8}:a33 n=true↔c0L n:=by
 unfold a33 c0L;cases n.j3
 ·simp only [f1D,e9R,b06,a4S,f0O,false_and,false_or,true_and]
 ·simp only [f1C,e9R,f0J,Bool.true_eq_false,false_and,or_false,true_and];rw [show (([n.b8.a5.d7,n.b8.a5.Seq]:List Int)==[n.Id,n.Seq])=true↔n.b8.a5=⟨n.Id,n.Seq⟩ from c8o (b:=⟨n.Id,n.Seq⟩)]
theorem a0p{n:j8}:D2 n=true↔NI n:=by
 unfold D2 O9 M6 b7H;simp only [e9R,H3,a7G,e9W,decide_eq_true_eq,f0J,decide_eq_false_iff_not];constructor
 ·rintro ⟨h1,⟨h2,h3,h4⟩,⟨h5,h6⟩,h7,h8,h9,h10,h11⟩
  exact ⟨h1,h2,h3.1,fun v hv=>⟨h3.2 v hv,by have:=h4 v hv;omega⟩,h5,h6,h7,by omega,h11,(c9i h1).1 h9,c36.1 h10⟩
 ·intro h;exact ⟨h.id,⟨h.pr,⟨h.vl,fun v hv=>(h.vs v hv).1⟩,fun v hv=>by have:=(h.vs v hv).2;omega⟩,⟨h.kl,h.ks⟩,h.sq,by have:=h.ql;omega,(c9i h.id).2 h.ld,c36.2 h.wt,h.qs⟩
theorem d4u{i:r9}(h:M2 i=true):b1i i:=by
 unfold M2 at h;by_cases k1:i.a6=1
 ·simp [k1,q8] at h;exact ⟨w8 (by omega),w8 (by omega),w8 (by omega),w8 (by omega)⟩
 by_cases k2:i.a6=2
 ·simp [k2,q8] at h;exact ⟨w8 (by omega),w8 (by omega),w8 (by omega),w8 (by omega)⟩
 by_cases k3:i.a6=3
 ·simp [k3,q8] at h;exact ⟨w8 (by omega),w8 (by omega),w8 (by omega),w8 (by omega)⟩
 by_cases k4:i.a6=4
 ·simp [k4,q8] at h;exact ⟨w8 (by omega),w8 (by omega),w8 (by omega),w8 (by omega)⟩
 by_cases k5:i.a6=5
 ·simp [k5,q8] at h;exact ⟨w8 (by omega),w8 (by omega),w8 (by omega),w8 (by omega)⟩
 by_cases k6:i.a6=6
 ·simp [k6,q8] at h;exact ⟨w8 (by omega),w8 (by omega),w8 (by omega),w8 (by omega)⟩
 by_cases k7:i.a6=7
 ·simp [k7] at h;exact ⟨w8 (by omega),w8 (by omega),w8 (by omega),w8 (by omega)⟩
 ·simp [k1,k2,k3,k4,k5,k6,k7] at h
theorem c9J{l:List r9}(h:D6 l=true):z9 32 b1i l:=by
 obtain ⟨h1,h2⟩:=c1Y h;exact S9 (by omega) fun i hi=>d4u (h2 i hi)
theorem a1f.phase{n:j8}(h:a1f n):0<=n.f0/\n.f0<=3:=by
 rcases h with h|h|h|h<;>omega
theorem a1f.bal{n:j8}(h:a1f n):0<=n.a8/\n.a8<=3000:=by
 rcases h with h|h|h|h
 ·omega
 all_goals exact ⟨by have:=h.2.1.b1;omega,h.2.1.b2⟩
theorem a1f.best{n:j8}(h:a1f n):n.i4.length<=40/\∀v∈n.i4,VI v:=by
 rcases h with h|h|h|h
 ·rw [h.2.2.2.1];exact ⟨by simp,by simp⟩
 all_goals exact ⟨h.2.1.bl,h.2.1.bs⟩
theorem a1f.from3{n:j8}(h:a1f n):n.c9.length<=3/\n.a0.length<=3/\E0 n.c8:=by
 rcases h with h|h|h|h
 ·rw [h.2.2.1,h.2.2.2.2.2,h.2.2.2.2.1];exact ⟨by simp,by simp,U8⟩
 ·rw [h.2.2.2.2.2,h.2.2.2.2.1];exact ⟨by omega,by simp,U8⟩
 ·rw [h.2.2.1,h.2.2.2.1,h.2.2.2.2];exact ⟨by simp,by simp,U8⟩
 ·rw [h.2.2.1];exact ⟨by simp,by omega,a19 h.2.2.2.1⟩
theorem NI.ok{n:j8}(h:NI n):P8 n:=by
 have hf:=h.ld.from3;have hb:=h.ld.best;have hw:E0 n.b8/\z9 32 b1i n.i7:=by
  rcases h.wt with q|q
  ·exact ⟨a19 q.2.2.1,c9J q.2.1⟩
  ·rw [q.2.1,q.2.2];exact ⟨U8,N7⟩
 have hph:=h.ld.phase;have hbl:=h.ld.bal;have h1:=h.id;have h2:=h.pr;have h3:=h.sq;have h4:=h.vl;have h5:=h.kl;have h6:=h.ql;exact ⟨w8 (by omega),⟨w8 (by omega),a2Z (by omega) fun v hv=>(h.vs v hv).1⟩,d0Y (by omega) h.ks,w8 (by omega),w8 (by omega),w8 (by omega),
  S9 (by omega) (fun _ _=>trivial),a2Z (by omega) hb.2,hf.2.2,S9 (by omega) (fun _ _=>trivial),hw.2,hw.1,d0Y (by omega) fun e he=>(h.qs e he).1⟩
theorem NI.list{n:j8}(h:NI n):M6 n.a7=true:=by
 unfold M6;simp only [e9R,decide_eq_true_eq,e9W];exact ⟨h.kl,h.ks⟩
def T4(m:j9):Prop:=
 ((m.a6=1\/m.a6=4)/\(1<=m.a8/\m.a8<=3000)/\m.g9=zE/\m.a0=[])\/
 (m.a6=2/\(1<=m.a8/\m.a8<=3000)/\m.g9=zE/\(m.a0.length<=40/\∀v∈m.a0,VI v)/\m.g8+m.a0.length<=40)\/
 (m.a6=3/\(1<=m.a8/\m.a8<=3000)/\m.g8<40/\z6 m.g9=true/\m.a0=[])\/
 (m.a6=5/\m.a8=0/\m.g8<40/\z6 m.g9=true/\m.a0=[])\/
 (m.a6=6/\(1<=m.a8/\m.a8<=3000)/\m.g8=0/\m.g9=zE/\m.a0=[])\/
 (m.a6=7/\m.a8=0/\m.g8=0/\z6 m.g9=true/\m.g9.i8=false/\m.a0=[])\/
 (m.a6=8/\m.a8=0/\m.g9=zE/\m.a0=[])
structure MI(m:j9):Prop where
 fr:0<=m.c9/\m.c9<=2
 to:0<=m.To/\m.To<=2
 ne:m.c9≠m.To
 sl:0<=m.g8/\m.g8<=40
 kd:T4 m
theorem c0o{m:j9}:I0 m=true↔MI m:=by
 have hk:(0<=m.g8/\m.g8<=40)->(a6o m=true↔T4 m):=by
  intro hs;have hw:K4 m.a0=true->m4 (m.g8+(m.a0.length:Int))=m.g8+(m.a0.length:Int):=by
   intro hv;have:=(a7G.1 hv).1;exact B8 (by omega) (by omega)
  unfold a6o T4;simp only [Bool.cond_eq_ite];by_cases k1:m.a6=1
  ·simp [k1,H3,a4S]
  by_cases k4:m.a6=4
  ·simp [k4,H3,a4S]
  by_cases k2:m.a6=2
  ·simp only [k2,H3,a4S,beq_self_eq_true,if_true,e9R,decide_eq_true_eq];simp only [show ((2:Int)==1)=false from rfl,show ((2:Int)==4)=false from rfl,f0O,if_false,e9R,H3,a4S,decide_eq_true_eq];constructor
   ·rintro ⟨a,b,c,d⟩
    rw [hw c] at d;exact .inr (.inl ⟨trivial,a,b,a7G.1 c,d⟩)
   ·rintro (h|h|h|h|h|h|h)
    ·omega
    ·have c:=a7G.2 h.2.2.2.1;exact ⟨h.2.1,h.2.2.1,c,by rw [hw c];exact h.2.2.2.2⟩
    all_goals exact absurd h.1 (by omega)
  by_cases k3:m.a6=3
  ·simp [k3,H3]
  by_cases k5:m.a6=5
  ·simp [k5]
  by_cases k6:m.a6=6
  ·simp [k6,H3,a4S]
  by_cases k7:m.a6=7
  ·simp [k7]
  by_cases k8:m.a6=8
  ·simp [k8,a4S]
  ·simp [k1,k2,k3,k4,k5,k6,k7,k8]
 unfold I0;simp only [e9R,H3,f0J,beq_eq_false_iff_ne];constructor
 ·rintro ⟨a,b,c,d,e⟩;exact ⟨a,b,c,d,(hk d).1 e⟩
 ·intro h;exact ⟨h.fr,h.to,h.ne,h.sl,(hk h.sl).2 h.kd⟩
theorem MI.ok{m:j9}(h:MI m):F9 m:=by
 have hf:=h.fr;have ht:=h.to;have hs:=h.sl;have hk:C2 m.a6/\C2 m.a8/\E0 m.g9/\z9 96 G3 m.a0:=by
  rcases h.kd with q|q|q|q|q|q|q
  ·rw [q.2.2.1,q.2.2.2];exact ⟨w8 (by omega),w8 (by omega),U8,N7⟩
  ·rw [q.2.2.1];exact ⟨w8 (by omega),w8 (by omega),U8,a2Z (by omega) q.2.2.2.1.2⟩
  ·rw [q.2.2.2.2];exact ⟨w8 (by omega),w8 (by omega),a19 q.2.2.2.1,N7⟩
  ·rw [q.2.2.2.2];exact ⟨w8 (by omega),w8 (by omega),a19 q.2.2.2.1,N7⟩
  ·rw [q.2.2.2.2,q.2.2.2.1];exact ⟨w8 (by omega),w8 (by omega),U8,N7⟩
  ·rw [q.2.2.2.2.2];exact ⟨w8 (by omega),w8 (by omega),a19 q.2.2.2.1,N7⟩
  ·rw [q.2.2.1,q.2.2.2];exact ⟨w8 (by omega),w8 (by omega),U8,N7⟩
 exact ⟨hk.1,w8 (by omega),w8 (by omega),hk.2.1,w8 (by omega),hk.2.2.1,hk.2.2.2⟩
structure WI(w:m8):Prop where
 nl:w.b7.length=3
 ns:∀(i:Nat) (n:j8),w.b7[i]?=some n->n.Id=(i:Int)/\NI n
 ml:w.d8.length<=40
 ms:∀m∈w.d8,MI m
 al:w.g7.length<=60
 aq:∀a∈w.g7,W8 a=true
 tl:w.Told.length<=60
 ts:∀t∈w.Told,R6 t=true
theorem a8n{w:m8}:L3 w=true↔WI w:=by
 unfold L3;simp only [e9R,beq_iff_eq,decide_eq_true_eq,e9W,f0I,c0o];constructor
 ·rintro ⟨h1,h2,h3,h4,h5,h6,h7,h8⟩
  refine ⟨by omega,?_,by omega,h6,by omega,h7,by omega,h8⟩;intro i n hn;have hi:=(e9T.1 hn).1;have:=h5 i hi;unfold a3J at this;rw [hn] at this;simp only [e9R,beq_iff_eq,a0p] at this;exact this
 ·intro h;have h2:=h.ml;have h3:=h.al;have h4:=h.tl;refine ⟨by have:=h.nl;omega,by omega,by omega,by omega,?_,h.ms,h.aq,h.ts⟩;intro i hi;unfold a3J;rw [e9N hi];simp only [e9R,beq_iff_eq,a0p];exact h.ns i _ (e9N hi)
theorem e0t{a:C1}(h:W8 a=true):d2D a:=by
 unfold W8 at h;simp only [e9R,H3] at h;exact ⟨⟨w8 (by omega),w8 (by omega)⟩,c9J h.2⟩
theorem e7c{t:o8}(h:R6 t=true):c8F t:=by
 unfold R6 at h;simp only [e9R,H3] at h;exact ⟨w8 (by omega),⟨w8 (by omega),w8 (by omega)⟩,w8 (by omega),w8 (by omega)⟩
theorem WI.ok{w:m8}(h:WI w):a0u w:=by
 have h1:=h.nl;have h2:=h.ml;have h3:=h.al;have h4:=h.tl;refine ⟨S9 (by omega) ?_,S9 (by omega) fun m hm=>(h.ms m hm).ok,S9 (by omega) fun a ha=>e0t (h.aq a ha),S9 (by omega) fun t ht=>e7c (h.ts t ht)⟩;intro n hn;obtain ⟨i,hi⟩:=f04 hn;exact (h.ns i n hi).2.ok
theorem b7o(m o:j9):a4J m o=some [Z5 m o]:=rfl
theorem d1z(n:j8)(b:Int):b0z n b=some (Y8 n b):=by
 unfold b0z Y8;cases n.f0 != 0
 ·rfl
 ·simp only [f1C,e95];cases decide (b>n.a8)<;>rfl
theorem e7v(n:j8)(b:Int):b0F n b=some (Y8 n b):=by
 unfold b0F Y8;cases n.f0 != 0
 ·rfl
 ·simp only [f1C,e95];cases decide (b>n.a8)<;>rfl
theorem d7S(n:j8)(b:Int):(Y8 n b).Acc=n.Acc:=by
 unfold Y8;cases n.f0 != 0&&decide (b>n.a8)<;>rfl
theorem a92{a x:v5}{b:Int}(h:J2 a b=some x):x=⟨b,a.a0⟩/\1<=b/\b<=3000/\a.i5<=b:=by
 unfold J2 a7E at h;cases hq:q8 b 1 3000&&decide (a.i5<=b)
 ·rw [hq] at h;cases h
 ·rw [hq] at h;simp only [e9R,H3,decide_eq_true_eq] at hq;injection h with h;exact ⟨h.symm,hq.1.1,hq.1.2,hq.2⟩
theorem b8E{α:Type}(l:List α)(k:Nat):(l.drop k).take (l.length-k)=l.drop k:=by
 rw [f0k];simp
theorem e9t{n:j8}(h:P8 n){m:j9}(hs:0<=m.g8):b5P n m=some (a4G n m):=by
 unfold b5P a4G;rw [c1m,b3o];cases hp:J2 n.Acc m.a8 with
 | none=>rfl
 | some a=>
  obtain ⟨rfl,_⟩:=a92 hp;simp only [a4C,e9M,e9S,f1D,e7v];have ha:=d7S {n with Acc:=⟨m.a8,n.Acc.a0⟩} m.a8;have hy:∀y:j8,y.Acc=⟨m.a8,n.Acc.a0⟩->(j8.mk y.Id (v5.mk y.Acc.i5 n.Acc.a0) y.a7 y.Seq y.f0 y.a8 y.c9 y.i4 y.c8 y.a0 y.j3 y.i7 y.b8 y.d6)=y:=by
   intro y hy;obtain ⟨y1,y2,y3,y4,y5,y6,y7,y8,y9,y10,y11,y12,y13,y14⟩:=y;simp only at hy;subst hy;rfl
  rw [hy _ ha];obtain ⟨k,hk⟩:∃k:Nat,m.g8=(k:Int):=⟨m.g8.toNat,by omega⟩
  rw [hk,f0h,b8E];cases hd:decide ((k:Int)<(n.Acc.a0.length:Int))
  ·simp only [f1D,b7o,e9M];rw [e94 (by simp at hd;omega)]
  ·simp only [f1C];rw [t6 (by simp at hd;omega),d9U (e6z h.2.1.2 (by simp) fun x hx=>f0B hx),e9M,b7o,e9M]
theorem e5u{n:j8}{m:j9}(hm:F9 m):b7E n m=some (a3V n m):=by
 have he:E0 m.g9:=hm.2.2.2.2.2.1;unfold b7E a3V;rw [c5B he,c22 he];cases O8 n.Acc m.a8 m.g8 m.g9 with
 | none=>rfl
 | some a=>simp only [a4C,e9M,e9S,f1D,d1z,b7o]
theorem b7D{l:List Bool}(h:l.length<=3):u5 l:=by unfold u5;omega
theorem e4K{n:j8}(h:NI n){m:j9}(hm:MI m)(hk:m.a6=2):b3V n m=some (a4A n m):=by
 have hkd:(m.a0.length<=40/\∀v∈m.a0,VI v)/\m.g8+m.a0.length<=40:=by
  rcases hm.kd with q|q|q|q|q|q|q
  ·omega
  ·exact ⟨q.2.2.2.1,q.2.2.2.2⟩
  all_goals exact absurd q.1 (by omega)
 have hs:=hm.sl;have hf:=hm.fr;unfold b3V a4A;by_cases p1:n.f0=1
 ·rw [show (n.f0 != 1)=false by simp [p1],f0p];simp only [f1D];cases hb:m.a8 != n.a8
  ·simp only [f1D];have hl:n.c9.length=3/\Own n:=by
    rcases h.ld with q|q|q|q
    ·omega
    ·exact ⟨q.2.2.1,q.2.1⟩
    all_goals exact absurd q.1 (by omega)
   obtain ⟨f,hff⟩:∃f:Nat,m.c9=(f:Int):=⟨m.c9.toNat,by omega⟩
   have hvo:z9 96 G3 (e9O m.g8.toNat v0++m.a0):=a2Z (by simp;omega) (by
    intro v hv;rcases e9P.1 hv with q|q
    ·rw [(f0r.1 q).2];exact .inl rfl
    ·exact hkd.1.2 v q)
   have hz:∀v∈e9O m.g8.toNat v0++m.a0,v.a8<=0->v=v0:=by
    intro v hv hb;rcases e9P.1 hv with q|q
    ·exact (f0r.1 q).2
    ·exact (hkd.1.2 v q).zero hb
   rw [hff,u6 (show f<n.c9.length by omega),e9M,d9t (a2Z (by omega) hkd.1.2) hkd.1.1 hs,e9M,d8F (a2Z (by have:=hl.2.bl;omega) hl.2.bs) hvo (by have:=hl.2.bl;omega) (by simp;omega) hz,e9M,d22 (b7D (by simp;omega)),e9M];cases htw:U6 (n.c9.set (f:Int).toNat true)
   ·simp only [e97,f1C,f1D]
   ·simp only [e9S,f1D,f1C];have hbl:=a8L n.i4 (e9O m.g8.toNat v0++m.a0);have hob:=hl.2.bl;have hlen:(e9O m.g8.toNat v0++m.a0).length<=40:=by simp;omega
    obtain ⟨h1,h2,h3,h4,h5,h6,h7,h8,h9,h10,h11,h12,h13⟩:=h.ok;rw [b0V (n:=⟨n.Id,n.Acc,n.a7,n.Seq,2,n.a8,[],E6 n.i4 (e9O m.g8.toNat v0++m.a0),n.c8,n.a0,n.j3,n.i7,n.b8,n.d6⟩) ⟨h1,h2,h3,h4,w8 (n:=2) (by omega),h6,N7,a2Z (by show (E6 n.i4 (e9O m.g8.toNat v0++m.a0)).length<=1000;omega) (fun v hv=>(b36 hv).elim (fun q=>hl.2.bs v q) (fun q=>(e9P.1 q).elim (fun q=>by rw [(f0r.1 q).2];exact .inl rfl) (hkd.1.2 v))),h9,h10,h11,h12,h13⟩ h.id,e9M]
  ·rfl
 ·rw [show (n.f0 != 1)=true by simpa using p1];rfl
theorem a0k(id:Int)(m:j9):(O3 id m).length<=3:=by
 unfold O3;rw [f0X];exact List.length_filter_le _ _
theorem a6W(n:j8):(S4 n).2.length<=3:=by
 unfold S4 a97;cases n.f0 != 2||decide (40<=n.a7.length)
 ·simp only [f1D];cases a1o n with
  | mk x o=>
   cases o with
   | none=>simp
   | some e=>
    simp only;cases O8 x.Acc x.a8 (x.a7.length:Int) e with
    | none=>simp
    | some a=>exact a0k _ _
 ·simp
theorem d7c{n:j8}(h:NI n){m:j9}(hm:MI m):b5g n m=some (a6n n m):=by
 have hf:=hm.fr;unfold b5g a6n;by_cases p3:n.f0=3
 ·rw [show (n.f0 != 3)=false by simp [p3],f0p];simp only [f1D];cases hb:m.a8 != n.a8
  ·simp only [f1D,f0p];cases hs:m.g8 != (n.a7.length:Int)
   ·simp only [f1D];have hl:n.a0.length=3/\z6 n.c8=true/\n.a7.length<40:=by
     rcases h.ld with q|q|q|q
     ·omega
     ·omega
     ·omega
     ·exact ⟨q.2.2.2.2.1,q.2.2.2.1,q.2.2.2.2.2.2⟩
    obtain ⟨f,hff⟩:∃f:Nat,m.c9=(f:Int):=⟨m.c9.toNat,by omega⟩
    have hcur:=a19 hl.2.1;rw [hff,u6 (show f<n.a0.length by omega),e9M,d22 (b7D (by simp;omega)),e9M];cases htw:U6 (n.a0.set (f:Int).toNat true)
    ·simp only [e97,f1C,f1D]
    ·simp only [e9S,f1D,f1C];obtain ⟨h1,h2,h3,h4,h5,h6,h7,h8,h9,h10,h11,h12,h13⟩:=h.ok;rw [a0l hcur,e9M,a6l h.id (a8k (w8 (by omega)) Z0 (w8 (by omega)) hcur N7),e9M,
      c7m (n:={n with a0:=n.a0.set (f:Int).toNat true}) ⟨h1,h2,h3,h4,h5,h6,h7,h8,h9,S9 (by simp;omega) (fun _ _=>trivial),h11,h12,h13⟩ h.id h.list hl.2.2 hcur hl.2.1,e9M,t6]
     have e1:=a0k n.Id ⟨5,0,0,0,(n.a7.length:Int),n.c8,[]⟩;have e2:=a6W (V6 (T5 {n with a0:=n.a0.set (f:Int).toNat true} n.c8)).1;have e3:(a05 {n with a0:=n.a0.set (f:Int).toNat true} n.c8).2.1.length<=3:=e2;omega
   ·rfl
  ·rfl
 ·rw [show (n.f0 != 3)=true by simpa using p3];rfl
theorem e30{n:j8}(h:NI n){m:j9}(hm:MI m)(hk:m.a6=5):b7O n m=some (a50 n m):=by
 have hkd:m.g8<40/\z6 m.g9=true:=by
  rcases hm.kd with q|q|q|q|q|q|q
  ·omega
  ·omega
  ·omega
  ·exact ⟨q.2.2.1,q.2.2.2.1⟩
  all_goals exact absurd q.1 (by omega)
 unfold b7O a50;cases h1:decide (m.g8<(n.a7.length:Int))
 ·cases h2:decide (m.g8>(n.a7.length:Int))
  ·simp only [f1D];have hl:n.a7.length<40:=by simp at h1 h2;omega
   rw [c7m h.ok h.id h.list hl (a19 hkd.2) hkd.2,e9M]
  ·rfl
 ·rfl
theorem e8v{n:j8}(h:NI n){m:j9}(hm:MI m):b8b n m=some (a4h n m):=by
 have he:E0 m.g9:=hm.ok.2.2.2.2.2.1;have hql:=h.ql;unfold b8b a4h;rw [show decide ((n.d6.length:Int)>=4)=decide (4<=n.d6.length) by simp;omega,b4J (h.ok.2.2.1.fits (by decide)),a0l he];cases n.f0==0
 ·simp only [f1D,f0p];cases decide (4<=n.d6.length)
  ·simp only [f1D,f0p,e9M];cases M5 n.a7 m.g9.a5
   ·obtain ⟨h1,h2,h3,h4,h5,h6,h7,h8,h9,h10,h11,h12,h13⟩:=h.ok;simp only [f1D];rw [t6 (by omega),b0V (n:={n with d6:=n.d6++[m.g9]}) ⟨h1,h2,h3,h4,h5,h6,h7,h8,h9,h10,h11,h12,S9 (by simp;omega) (by
     intro x hx;rcases e9P.1 hx with q|q
     ·exact h13.2 x q
     ·rw [e9Z.1 q];exact he)⟩ h.id,e9M]
   ·rfl
  ·rfl
 ·rfl
theorem b8l{n:j8}(m:j9){k:Nat}(hk:k<n.a7.length):a1F n m k=[Z5 m ⟨5,0,0,0,(k:Int),n.a7[k],[]⟩]:=by
 unfold a1F;rw [e9N hk]
theorem c6R{n:j8}(h:NI n)(m:j9):∀(d k:Nat) (o:List j9),n.a7.length-k=d->o.length<=k->s2 (fun s:(List j9)×Int=>a47 n m s.1 s.2) (o,(k:Int))=some (.brk (o++((e9Y d).map fun j=>a1F n m (k+j)).flatten))
 | 0,k,o,hd,ho=>by
  have hkl:=h.kl;refine (D7 (b:=o) ?_).trans (by simp);show a47 n m o (k:Int)=_
  unfold a47;rw [show decide ((k:Int)<(n.a7.length:Int))=false by simp;omega];rfl
 | d+1,k,o,hd,ho=>by
  have hkl:=h.kl;have hlt:k<n.a7.length:=by omega
  have hb:a47 n m o (k:Int)=some (.nxt (o++a1F n m k,((k+1:Nat):Int))):=by
   unfold a47;rw [z0 _ k hlt,u6 hlt,f1C,e9M,a0l (a19 (h.ks _ (e9Q hlt))),e9M,b7o,e9M,t6 (by simp;omega),b8l m hlt,G0 (h.ok.2.2.1.fits (by decide)) hlt]
  rw [F7 (body:=fun s:(List j9)×Int=>a47 n m s.1 s.2) (s:=(o,(k:Int))) hb,c6R h m d (k+1) _ (by omega) (by rw [b8l m hlt];simp;omega)];rw [List.range_succ_eq_map,f0j,f0d,e92,f1m];simp only [f01,Function.comp_def,Nat.succ_eq_add_one,Nat.add_assoc,Nat.add_comm 1]
theorem e4Y{n:j8}(h:NI n){m:j9}(hs:0<=m.g8):b6K n m=some (a54 n m,n):=by
 unfold b6K a54;obtain ⟨k,hk⟩:∃k:Nat,m.g8=(k:Int):=⟨m.g8.toNat,by omega⟩
 rw [hk];have:=c6R h m (n.a7.length-k) k [] rfl (by simp);rw [this];rfl
theorem d2B{n:j8}(h:NI n){m:j9}(hm:MI m):b01 n m=some (a1K n m):=by
 unfold b01 a1K;rw [e9t h.ok hm.sl.1,e5u hm.ok,d7c h hm,e8v h hm,e4Y h hm.sl.1,b3o];by_cases k1:m.a6=1
 ·simp [k1];rfl
 rw [show (m.a6==1)=false by simpa using k1];by_cases k2:m.a6=2
 ·rw [e4K h hm k2];simp [k2];rfl
 rw [show (m.a6==2)=false by simpa using k2];by_cases k3:m.a6=3
 ·simp [k3];rfl
 rw [show (m.a6==3)=false by simpa using k3];by_cases k4:m.a6=4
 ·simp [k4];rfl
 rw [show (m.a6==4)=false by simpa using k4];by_cases k5:m.a6=5
 ·rw [e30 h hm k5];simp [k5];rfl
 rw [show (m.a6==5)=false by simpa using k5];by_cases k6:m.a6=6
 ·rw [show (m.a6==6)=true by simpa using k6];simp only [f1C,f1D,e9M];cases J2 n.Acc m.a8<;>simp only [d1z,e9M,Option.getD_none,f0U]<;>rfl
 rw [show (m.a6==6)=false by simpa using k6];by_cases k7:m.a6=7
 ·simp [k7];rfl
 rw [show (m.a6==7)=false by simpa using k7];cases m.a6==8
 ·rfl
 ·simp only [f1C,f1D,e9M];rw [t6 trivial,t6 trivial,t6 trivial,t6 trivial,t6 trivial];rfl
theorem b9o{a x:v5}{b s:Int}{e:m5}(h:O8 a b s e=some x):∃k:Nat,s=(k:Int)/\k<40/\z6 e=true/\1<=b/\b<=3000/\a.i5<=b/\x=⟨b,(U4 a.a0 (k+1)).set k ⟨b,e⟩⟩:=by
 unfold O8 at h;cases hq:q8 s 0 39&&z6 e
 ·rw [hq] at h;cases h
 ·rw [hq,f1C] at h;simp only [e9R,H3] at hq;cases hp:J2 a b with
  | none=>rw [hp] at h;cases h
  | some y=>
   rw [hp] at h;obtain ⟨rfl,h1,h2,h3⟩:=a92 hp;injection h with h;refine ⟨s.toNat,by omega,by omega,hq.2,h1,h2,h3,h.symm⟩
theorem b4u{a:v5}{b:Int}(h1:1<=b)(h2:b<=3000)(h3:a.i5<=b):J2 a b=some ⟨b,a.a0⟩:=by
 unfold J2 a7E;rw [H3.2 ⟨h1,h2⟩,show decide (a.i5<=b)=true by simpa using h3];rfl
theorem d4v{a:v5}{b:Int}{k:Nat}{e:m5}(hk:k<40)(he:z6 e=true)(h1:1<=b)(h2:b<=3000)(h3:a.i5<=b):O8 a b (k:Int) e=some ⟨b,(U4 a.a0 (k+1)).set k ⟨b,e⟩⟩:=by
 unfold O8;rw [H3.2 (show 0<=(k:Int)/\(k:Int)<=39 by omega),he,b4u h1 h2 h3];rfl
theorem d3g{vs:List m6}{n:Nat}{v:m6}(h:v∈U4 vs n):v∈vs\/v=v0:=by
 rcases e9P.1 h with q|q
 ·exact .inl q
 ·exact .inr (f0r.1 q).2
theorem d9n{α:Type}{l:List α}{k:Nat}{x v:α}(h:v∈l.set k x):v∈l\/v=x:=e99 h
theorem NI.queue{n:j8}(h:NI n){q:List m5}(hl:q.length<=4)(hm:∀e∈q,z6 e=true/\e.i8=false):NI {n with d6:=q}:=
 ⟨h.id,h.pr,h.vl,h.vs,h.kl,h.ks,h.sq,hl,hm,h.ld,h.wt⟩
theorem NI.down{n:j8}(h:NI n):NI (a67 n):=
 ⟨h.id,h.pr,h.vl,h.vs,h.kl,h.ks,h.sq,h.ql,h.qs,.inl ⟨rfl,rfl,rfl,rfl,rfl,rfl⟩,h.wt⟩
theorem NI.freeN{n:j8}(h:NI n):NI (a5J n):=
 ⟨h.id,h.pr,h.vl,h.vs,h.kl,h.ks,h.sq,h.ql,h.qs,h.ld,.inr ⟨rfl,rfl,rfl⟩⟩
theorem NI.acc{n:j8}(h:NI n){a:v5}(h1:0<=a.i5/\a.i5<=3000)(h2:a.a0.length<=40)(h3:∀v∈a.a0,VI v/\v.a8<=a.i5)(h4:n.Acc.i5<=a.i5):NI {n with Acc:=a}:=by
 have ho:Own n->Own {n with Acc:=a}:=fun o=>⟨o.b1,o.b2,o.mod,Int.le_trans o.pr h4,o.bl,o.bs⟩
 refine ⟨h.id,h1,h2,h3,h.kl,h.ks,h.sq,h.ql,h.qs,?_,h.wt⟩;rcases h.ld with q|q|q|q
 ·exact .inl q
 ·exact .inr (.inl ⟨q.1,ho q.2.1,q.2.2⟩)
 ·exact .inr (.inr (.inl ⟨q.1,ho q.2.1,q.2.2⟩))
 ·exact .inr (.inr (.inr ⟨q.1,ho q.2.1,q.2.2⟩))
theorem NI.promise{n:j8}(h:NI n){b:Int}{x:v5}(hp:J2 n.Acc b=some x):NI {n with Acc:=x}:=by
 obtain ⟨rfl,h1,h2,h3⟩:=a92 hp;exact h.acc ⟨by simp only;omega,h2⟩ h.vl (fun v hv=>⟨(h.vs v hv).1,Int.le_trans (h.vs v hv).2 h3⟩) h3
theorem d3Y{vs:List m6}{p b:Int}{k:Nat}{e:m5}(hk:k<40)(hl:vs.length<=40)(hv:∀v∈vs,VI v/\v.a8<=p)(he:z6 e=true)(h1:1<=b)(h2:b<=3000)(h3:p<=b) :
  ((U4 vs (k+1)).set k ⟨b,e⟩).length<=40/\∀v∈(U4 vs (k+1)).set k ⟨b,e⟩,VI v/\v.a8<=b:=by
 refine ⟨by rw [f0z,c2t];omega,fun v hm => ?_⟩;rcases d9n hm with q|q
 ·rcases d3g q with q|q
  ·exact ⟨(hv v q).1,Int.le_trans (hv v q).2 h3⟩
  ·rw [q];exact ⟨.inl rfl,by show (0:Int)<=b;omega⟩
 ·rw [q];exact ⟨.inr ⟨h1,h2,he⟩,Int.le_refl _⟩
theorem NI.cast{n:j8}(h:NI n){b s:Int}{e:m5}{x:v5}(hc:O8 n.Acc b s e=some x):NI {n with Acc:=x}:=by
 obtain ⟨k,rfl,hk,he,h1,h2,h3,rfl⟩:=b9o hc;obtain ⟨a,b'⟩:=d3Y hk h.vl h.vs he h1 h2 h3;exact h.acc ⟨by simp only;omega,h2⟩ a b' h3
theorem NI.yield{n:j8}(h:NI n)(b:Int):NI (Y8 n b):=by
 unfold Y8;cases n.f0 != 0&&decide (b>n.a8)
 ·exact h
 ·exact h.down
theorem c1q{id:Int}(h:0<=id/\id<=2):(a79 id).length=3/\(a79 id)[id.toNat]?=some true:=by
 unfold a79;refine ⟨by simp,?_⟩;rw [f0S (by simp;omega)]
theorem a3r.right{n:j8}(h:NI n){e:m5}(hn:a3r n e):z6 e=true:=by
 cases hn with
 | best v hv hb=>exact (h.ld.best.2 v (e93 hv)).pos hb
 | gap=>rfl
 | want hb=>
  rcases h.wt with q|q
  ·exact q.2.2.1
  ·rw [hb] at q;cases q.1
 | queue e hq=>exact (h.qs e hq).1
theorem e3b{id:Int}{m x:j9}(hid:0<=id/\id<=2)(h:x∈O3 id m):∃t:Int,0<=t/\t<=2/\t≠id/\x={m with c9:=id,To:=t}:=by
 unfold O3 at h;obtain ⟨t,ht,rfl⟩:=f0l.1 h;obtain ⟨h1,h2⟩:=f0C.1 ht;refine ⟨t,?_,?_,by simpa using h2,rfl⟩;all_goals simp at h1;omega
theorem a6p{id:Int}{m:j9}(hid:0<=id/\id<=2)(hk:T4 m)(hs:0<=m.g8/\m.g8<=40):∀x∈O3 id m,MI x:=by
 intro x hx;obtain ⟨t,h1,h2,h3,rfl⟩:=e3b hid hx;exact ⟨hid,⟨h1,h2⟩,fun q=>h3 q.symm,hs,hk⟩
theorem a9k{m o:j9}(hm:MI m)(hk:T4 o)(hs:0<=o.g8/\o.g8<=40):MI (Z5 m o):=⟨hm.to,hm.fr,fun q=>hm.ne q.symm,hs,hk⟩
theorem T4.one{k b s:Int}(hk:k=1\/k=4)(hb:1<=b/\b<=3000):T4 ⟨k,0,0,b,s,zE,[]⟩:=.inl ⟨hk,hb,rfl,rfl⟩
theorem T4.accept{b s:Int}{e:m5}(hb:1<=b/\b<=3000)(hs:s<40)(he:z6 e=true):T4 ⟨3,0,0,b,s,e,[]⟩:=.inr (.inr (.inl ⟨rfl,hb,hs,he,rfl⟩))
theorem T4.chosen{s:Int}{e:m5}(hs:s<40)(he:z6 e=true):T4 ⟨5,0,0,0,s,e,[]⟩:=.inr (.inr (.inr (.inl ⟨rfl,rfl,hs,he,rfl⟩)))
theorem T4.refuse{b:Int}(hb:1<=b/\b<=3000):T4 ⟨6,0,0,b,0,zE,[]⟩:=.inr (.inr (.inr (.inr (.inl ⟨rfl,hb,rfl,rfl,rfl⟩))))
theorem T4.ask{e:m5}(he:z6 e=true)(hn:e.i8=false):T4 ⟨7,0,0,0,0,e,[]⟩:=.inr (.inr (.inr (.inr (.inr (.inl ⟨rfl,rfl,rfl,he,hn,rfl⟩)))))
theorem T4.need{s:Int}:T4 ⟨8,0,0,0,s,zE,[]⟩:=.inr (.inr (.inr (.inr (.inr (.inr ⟨rfl,rfl,rfl,rfl⟩)))))
structure R3(n:j8)(x:j8×List j9):Prop where
 ni:NI x.1
 id:x.1.Id=n.Id
 ms:∀m∈x.2,MI m
theorem R3.same{n:j8}(h:NI n):R3 n (n,[]):=⟨h,rfl,by simp⟩
theorem R3.to{n n':j8}(hi:n'.Id=n.Id){x:j8×List j9}(h:R3 n' x):R3 n x:=⟨h.ni,h.id.trans hi,h.ms⟩
theorem b1k{n:j8}(h:NI n):R3 n (S4 n):=by
 unfold S4;cases hc:n.f0 != 2||decide (40<=n.a7.length)
 ·simp only [f1D];simp only [f1t,bne_eq_false_iff_eq,decide_eq_false_iff_not] at hc;obtain ⟨q,hq,hql,hqm,hqe⟩:=b6Q n;cases hx:a1o n with
  | mk x o=>
  rw [hx] at hq hqe;have hq:x={n with d6:=q}:=hq;have hn:NI {n with d6:=q}:=h.queue (by have:=h.ql;omega) fun e he=>h.qs e (hqm e he)
  subst hq;cases o with
  | none=>exact ⟨hn,rfl,by simp⟩
  | some e=>
   have he:=(hqe e rfl).right h;simp only [a97];have ho:Own n:=by
    rcases h.ld with q|q|q|q
    ·omega
    ·omega
    ·exact q.2.1
    ·omega
   cases hcs:O8 n.Acc n.a8 (n.a7.length:Int) e with
   | none=>exact ⟨hn.down,rfl,by simp⟩
   | some a=>
    have hac:=hn.cast (b:=n.a8) (s:=(n.a7.length:Int)) (e:=e) hcs;obtain ⟨k,hk,hk40,_,h1,h2,h3,rfl⟩:=b9o hcs;refine ⟨⟨h.id,hac.pr,hac.vl,hac.vs,h.kl,h.ks,h.sq,hn.ql,hn.qs,?_,h.wt⟩,rfl,a6p h.id (.accept ⟨h1,h2⟩ (by omega) he) (by simp only;omega)⟩;refine .inr (.inr (.inr ⟨rfl,⟨ho.b1,ho.b2,ho.mod,Int.le_refl _,ho.bl,ho.bs⟩,?_,he,(c1q h.id).1,(c1q h.id).2,by simp only;omega⟩));rcases h.ld with q|q|q|q
    ·omega
    ·omega
    ·exact q.2.2.1
    ·omega
 ·exact .same h
theorem NI.know{n:j8}(h:NI n){e:m5}(he:z6 e=true)(hl:n.a7.length<40):NI (T5 n e):=by
 have hks:∀x∈n.a7++[e],z6 x=true:=by
  intro x hx;rcases e9P.1 hx with q|q
  ·exact h.ks x q
  ·rw [e9Z.1 q];exact he
 have hkl:(n.a7++[e]).length<=40:=by simp;omega
 unfold T5;by_cases p3:n.f0=3
 ·rw [show (n.f0==3)=true by simpa using p3];refine ⟨h.id,h.pr,h.vl,h.vs,hkl,hks,h.sq,h.ql,h.qs,?_,h.wt⟩;rcases h.ld with q|q|q|q
  ·omega
  ·omega
  ·omega
  ·exact .inr (.inr (.inl ⟨rfl,⟨q.2.1.b1,q.2.1.b2,q.2.1.mod,q.2.1.pr,q.2.1.bl,q.2.1.bs⟩,q.2.2.1,rfl,rfl⟩))
 ·rw [show (n.f0==3)=false by simpa using p3];refine ⟨h.id,h.pr,h.vl,h.vs,hkl,hks,h.sq,h.ql,h.qs,?_,h.wt⟩;rcases h.ld with q|q|q|q
  ·exact .inl q
  ·exact .inr (.inl ⟨q.1,⟨q.2.1.b1,q.2.1.b2,q.2.1.mod,q.2.1.pr,q.2.1.bl,q.2.1.bs⟩,q.2.2⟩)
  ·exact .inr (.inr (.inl ⟨q.1,⟨q.2.1.b1,q.2.1.b2,q.2.1.mod,q.2.1.pr,q.2.1.bl,q.2.1.bs⟩,q.2.2⟩))
  ·exact absurd q.1 p3
theorem e8c{s:u9}{e:m5}(hn:e.i8=false):0<=(apply s e).2/\(apply s e).2<=4:=by
 have hf:0<=(a1e s e).2/\(a1e s e).2<=4:=by
  unfold a1e;cases a4Q s.i0 e.b9
  ·exact ⟨by simp,by simp⟩
  ·cases e.b9.Code==0<;>exact ⟨by simp,by simp⟩
 unfold apply;rw [hn];simp only [f1D];cases s.i9.find? fun d=>d.a5.d7==e.a5.d7 with
 | none=>exact hf
 | some d=>
  simp only;cases d.a5.Seq==e.a5.Seq
  ·cases decide (d.a5.Seq>e.a5.Seq)
   ·exact hf
   ·exact ⟨by simp,by simp⟩
  ·exact ⟨by simp,by simp⟩
theorem c1f{l:List m5}{q:s3}{k:Nat}(h:l.findIdx? (O0 q)=some k):∃hk:k<l.length,l[k].i8=false/\l[k].a5=q:=by
 rw [f0T] at h;obtain ⟨hk,h1,_⟩:=h;unfold O0 at h1;simp only [e9R,f0J] at h1;exact ⟨hk,h1.1,c8o.1 h1.2⟩
theorem e3T{l:List m5}(h:M6 l=true){k:Nat}(hk:k<l.length):a0r l k=(apply (A2 (l.take k)).1 l[k]).2:=by
 obtain ⟨a,b⟩:=a76 h;unfold a0r;rw [d3I a b hk];rfl
theorem e3A{l:List m5}(h:∀e∈l,z6 e=true)(q:s3):-1000000<=a5n l q/\a5n l q<=1000000:=by
 unfold a5n;cases hf:l.findIdx? (O0 q) with
 | none=>exact ⟨by simp,by simp⟩
 | some k=>
  obtain ⟨hk,h1,h2⟩:=c1f hf;simp only [e9N hk];exact (a7u (a8v (h _ (e9Q hk)) h1).2.2.1).2.1
theorem e5d{n:j8}(h:NI n):NI (V6 n).1/\∀t∈(V6 n).2,R6 t=true:=by
 rcases b65 n with q|⟨k,hb,hk,q⟩<;>rw [q]
 ·exact ⟨h,by simp⟩
 ·refine ⟨h.freeN,fun t ht => ?_⟩;obtain ⟨hkl,h1,h2⟩:=c1f hk;have ht:=e9Z.1 ht;subst ht;have hw:n.b8.a5=⟨n.Id,n.Seq⟩/\z6 n.b8=true/\n.b8.i8=false:=by
   rcases h.wt with q|q
   ·exact ⟨q.2.2.2.2,q.2.2.1,q.2.2.2.1⟩
   ·rw [hb] at q;cases q.1
  obtain ⟨w1,w2,_⟩:=a8v hw.2.1 hw.2.2;have hc:=e8c (s:=(A2 (n.a7.take k)).1) h1;rw [<-e3T h.list hkl] at hc;have hv:=e3A h.ks n.b8.a5;unfold R6;simp only [e9R,H3,beq_iff_eq];refine ⟨h.id,⟨w1,w2⟩,by rw [hw.1],hc,?_⟩;cases a0r n.a7 k==0
  ·exact ⟨by simp,by simp⟩
  ·exact hv
structure a5s(n:j8)(x:j8×List j9×List o8):Prop where
 ni:NI x.1
 id:x.1.Id=n.Id
 ms:∀m∈x.2.1,MI m
 ts:∀t∈x.2.2,R6 t=true
theorem R3.three{n:j8}{x:j8×List j9}(h:R3 n x):a5s n (x.1,x.2,[]):=⟨h.ni,h.id,h.ms,by simp⟩
theorem a5s.same{n:j8}(h:NI n):a5s n (n,[],[]):=⟨h,rfl,by simp,by simp⟩
theorem c5J{n:j8}(h:NI n){e:m5}(he:z6 e=true)(hl:n.a7.length<40):a5s n (a05 n e):=by
 have h1:=h.know he hl;obtain ⟨h2,h3⟩:=e5d h1;have h4:=b1k h2;exact ⟨h4.ni,h4.id.trans ((d1X _).trans (c5K _ _)),h4.ms,h3⟩
theorem d9S{a:v5}{b:Int}(h:J2 a b=none)(hb:1<=b/\b<=3000):b<a.i5:=by
 by_cases q:a.i5<=b
 ·rw [b4u hb.1 hb.2 q] at h;cases h
 ·omega
theorem d42{n:j8}(h:NI n){m:j9}(hm:MI m)(hk:m.a6=1):R3 n (a4G n m):=by
 have hb:1<=m.a8/\m.a8<=3000:=by
  rcases hm.kd with q|q|q|q|q|q|q
  ·exact q.2.1
  all_goals exact absurd q.1 (by omega)
 have hs:=hm.sl;unfold a4G;cases hp:J2 n.Acc m.a8 with
 | none=>
  have:=d9S hp hb;refine ⟨h,rfl,fun x hx => ?_⟩;rw [e9Z.1 hx];exact a9k hm (.refuse (by have:=h.pr;omega)) (by simp)
 | some a=>
  have hn:=(h.promise hp).yield m.a8;obtain ⟨rfl,_⟩:=a92 hp;refine ⟨hn,?_,fun x hx => ?_⟩
  ·simp only [Y8];cases n.f0 != 0&&decide (m.a8>n.a8)<;>rfl
  ·rw [e9Z.1 hx];have hvl:=h.vl;refine a9k hm (.inr (.inl ⟨rfl,hb,rfl,⟨by simp;omega,fun v hv=>(h.vs v (f0B hv)).1⟩,by simp;omega⟩)) hs
theorem b0N(n:j8)(b:Int):(Y8 n b).Id=n.Id:=by
 unfold Y8;cases n.f0 != 0&&decide (b>n.a8)<;>rfl
theorem e1x{a:v5}{b:Int}{k:Nat}{e:m5}(h:O8 a b (k:Int) e=none)(hk:k<40)(he:z6 e=true)(hb:1<=b/\b<=3000):b<a.i5:=by
 by_cases q:a.i5<=b
 ·rw [d4v hk he hb.1 hb.2 q] at h;cases h
 ·omega
theorem e4X{n:j8}(h:NI n){m:j9}(hm:MI m)(hk:m.a6=3):R3 n (a3V n m):=by
 have hb:(1<=m.a8/\m.a8<=3000)/\m.g8<40/\z6 m.g9=true:=by
  rcases hm.kd with q|q|q|q|q|q|q
  ·omega
  ·omega
  ·exact ⟨q.2.1,q.2.2.1,q.2.2.2.1⟩
  all_goals exact absurd q.1 (by omega)
 have hs:=hm.sl;obtain ⟨k,hsk⟩:∃k:Nat,m.g8=(k:Int):=⟨m.g8.toNat,by omega⟩
 unfold a3V;cases hp:O8 n.Acc m.a8 m.g8 m.g9 with
 | none=>
  rw [hsk] at hp;have:=e1x hp (by omega) hb.2.2 hb.1;refine ⟨h,rfl,fun x hx => ?_⟩;rw [e9Z.1 hx];exact a9k hm (.refuse (by have:=h.pr;omega)) (by simp)
 | some a=>
  refine ⟨(h.cast hp).yield m.a8,b0N _ _,fun x hx => ?_⟩;rw [e9Z.1 hx];exact a9k hm (.one (.inr rfl) hb.1) hs
theorem c3V{n:j8}(h:NI n){m:j9}(hm:MI m)(hk:m.a6=2):R3 n (a4A n m):=by
 have hkd:(m.a0.length<=40/\∀v∈m.a0,VI v)/\m.g8+m.a0.length<=40:=by
  rcases hm.kd with q|q|q|q|q|q|q
  ·omega
  ·exact ⟨q.2.2.2.1,q.2.2.2.2⟩
  all_goals exact absurd q.1 (by omega)
 have hs:=hm.sl;have hf:=hm.fr;unfold a4A;cases hc:n.f0 != 1||m.a8 != n.a8
 ·simp only [f1t,bne_eq_false_iff_eq] at hc;simp only [f1D];have hl:Own n/\n.c9.length=3/\n.c9[n.Id.toNat]?=some true/\n.c8=zE/\n.a0=[]:=by
   rcases h.ld with q|q|q|q
   ·omega
   ·exact q.2
   all_goals exact absurd q.1 (by omega)
  have hbl:=a8L n.i4 (e9O m.g8.toNat v0++m.a0);have hob:=hl.1.bl;have hlen:(e9O m.g8.toNat v0++m.a0).length<=40:=by simp;omega
  have hbs:∀v∈E6 n.i4 (e9O m.g8.toNat v0++m.a0),VI v:=fun v hv=>(b36 hv).elim (fun q=>hl.1.bs v q) (fun q=>(e9P.1 q).elim (fun q=>by rw [(f0r.1 q).2];exact .inl rfl) (hkd.1.2 v))
  cases U6 (n.c9.set m.c9.toNat true)
  ·simp only [f1D];refine ⟨⟨h.id,h.pr,h.vl,h.vs,h.kl,h.ks,h.sq,h.ql,h.qs,.inr (.inl ⟨hc.1,⟨hl.1.b1,hl.1.b2,hl.1.mod,hl.1.pr,by show (E6 _ _).length<=40;omega,hbs⟩,by simp [hl.2.1],?_,hl.2.2.2.1,hl.2.2.2.2⟩),h.wt⟩,rfl,by simp⟩;show (n.c9.set m.c9.toNat true)[n.Id.toNat]?=some true
   by_cases q:m.c9.toNat=n.Id.toNat
   ·rw [q,f0S (by have:=h.id;omega)]
   ·rw [f0a q];exact hl.2.2.1
  ·simp only [f1C];refine R3.to (n:=n) (n':={n with c9:=[],i4:=E6 n.i4 (e9O m.g8.toNat v0++m.a0),f0:=2}) rfl (b1k ?_);exact ⟨h.id,h.pr,h.vl,h.vs,h.kl,h.ks,h.sq,h.ql,h.qs,.inr (.inr (.inl ⟨rfl,⟨hl.1.b1,hl.1.b2,hl.1.mod,hl.1.pr,by show (E6 _ _).length<=40;omega,hbs⟩,rfl,hl.2.2.2.1,hl.2.2.2.2⟩)),h.wt⟩
 ·exact .same h
theorem e0E{n:j8}(h:NI n){m:j9}(hm:MI m):a5s n (a6n n m):=by
 have hf:=hm.fr;unfold a6n;cases hc:n.f0 != 3||(m.a8 != n.a8||m.g8 != (n.a7.length:Int))
 ·simp only [f1t,bne_eq_false_iff_eq] at hc;simp only [f1D];have hl:Own n/\n.c9=[]/\z6 n.c8=true/\n.a0.length=3/\n.a0[n.Id.toNat]?=some true/\n.a7.length<40:=by
   rcases h.ld with q|q|q|q
   ·omega
   ·omega
   ·omega
   ·exact q.2
  have hn:NI {n with a0:=n.a0.set m.c9.toNat true}:=by
   refine ⟨h.id,h.pr,h.vl,h.vs,h.kl,h.ks,h.sq,h.ql,h.qs,.inr (.inr (.inr ⟨hc.1,⟨hl.1.b1,hl.1.b2,hl.1.mod,hl.1.pr,hl.1.bl,hl.1.bs⟩,hl.2.1,hl.2.2.1,by simp [hl.2.2.2.1],?_,hl.2.2.2.2.2⟩)),h.wt⟩;show (n.a0.set m.c9.toNat true)[n.Id.toNat]?=some true
   by_cases q:m.c9.toNat=n.Id.toNat
   ·rw [q,f0S (by have:=h.id;omega)]
   ·rw [f0a q];exact hl.2.2.2.2.1
  cases U6 (n.a0.set m.c9.toNat true)
  ·exact ⟨hn,rfl,by simp,by simp⟩
  ·simp only [f1C];have hr:=c5J hn hl.2.2.1 hl.2.2.2.2.2;refine ⟨hr.ni,hr.id,fun x hx => ?_,hr.ts⟩;rcases e9P.1 hx with q|q
   ·exact a6p h.id (.chosen (by omega) hl.2.2.1) (by simp only;omega) x q
   ·exact hr.ms x q
 ·exact .same h
theorem d7v{n:j8}(h:NI n){m:j9}(hm:MI m)(hk:m.a6=5):a5s n (a50 n m):=by
 have hkd:m.g8<40/\z6 m.g9=true:=by
  rcases hm.kd with q|q|q|q|q|q|q
  ·omega
  ·omega
  ·omega
  ·exact ⟨q.2.2.1,q.2.2.2.1⟩
  all_goals exact absurd q.1 (by omega)
 have hkl:=h.kl;unfold a50;cases h1:decide (m.g8<(n.a7.length:Int))
 ·cases h2:decide (m.g8>(n.a7.length:Int))
  ·simp only [decide_eq_false_iff_not] at h1 h2;exact c5J h hkd.2 (by omega)
  ·refine ⟨h,rfl,fun x hx => ?_,by simp⟩;rw [e9Z.1 hx];exact a9k hm .need (by simp only;omega)
 ·exact .same h
theorem e0r{n:j8}(h:NI n){m:j9}(hm:MI m)(hk:m.a6=7):R3 n (a4h n m):=by
 have hkd:z6 m.g9=true/\m.g9.i8=false:=by
  rcases hm.kd with q|q|q|q|q|q|q
  ·omega
  ·omega
  ·omega
  ·omega
  ·omega
  ·exact ⟨q.2.2.2.1,q.2.2.2.2.1⟩
  ·omega
 unfold a4h;cases hc:n.f0==0||(decide (4<=n.d6.length)||M5 n.a7 m.g9.a5)
 ·simp only [f1D];simp only [f1t,decide_eq_false_iff_not] at hc;refine R3.to (n:=n) (n':={n with d6:=n.d6++[m.g9]}) rfl (b1k (h.queue (by simp;omega) ?_));intro e he;rcases e9P.1 he with q|q
  ·exact h.qs e q
  ·rw [e9Z.1 q];exact hkd
 ·exact .same h
theorem d7m{n:j8}(h:NI n){m:j9}(hm:MI m):∀x∈a54 n m,MI x:=by
 intro x hx;unfold a54 at hx;obtain ⟨l,hl,hx⟩:=f0E.1 hx;obtain ⟨j,hj,rfl⟩:=f0l.1 hl;have hkl:=h.kl;unfold a1F at hx;cases hg:n.a7[m.g8.toNat+j]? with
 | none=>rw [hg] at hx;cases hx
 | some e=>
  rw [hg] at hx;have hlt:=(e9T.1 hg).1;rw [e9Z.1 hx];exact a9k hm (.chosen (by omega) (h.ks e (e93 hg))) (by simp only;omega)
theorem b1w{n:j8}(h:NI n){m:j9}(hm:MI m):a5s n (a1K n m):=by
 unfold a1K;by_cases k1:m.a6=1
 ·rw [show (m.a6==1)=true by simpa using k1];exact (d42 h hm k1).three
 rw [show (m.a6==1)=false by simpa using k1];by_cases k2:m.a6=2
 ·rw [show (m.a6==2)=true by simpa using k2];exact (c3V h hm k2).three
 rw [show (m.a6==2)=false by simpa using k2];by_cases k3:m.a6=3
 ·rw [show (m.a6==3)=true by simpa using k3];exact (e4X h hm k3).three
 rw [show (m.a6==3)=false by simpa using k3];by_cases k4:m.a6=4
 ·rw [show (m.a6==4)=true by simpa using k4];exact e0E h hm
 rw [show (m.a6==4)=false by simpa using k4];by_cases k5:m.a6=5
 ·rw [show (m.a6==5)=true by simpa using k5];exact d7v h hm k5
 rw [show (m.a6==5)=false by simpa using k5];by_cases k6:m.a6=6
 ·rw [show (m.a6==6)=true by simpa using k6];simp only [f1C,f1D];cases hp:J2 n.Acc m.a8 with
  | none=>exact ⟨h.yield _,b0N _ _,by simp,by simp⟩
  | some a=>exact ⟨(h.promise hp).yield _,b0N _ _,by simp,by simp⟩
 rw [show (m.a6==6)=false by simpa using k6];by_cases k7:m.a6=7
 ·rw [show (m.a6==7)=true by simpa using k7];exact (e0r h hm k7).three
 rw [show (m.a6==7)=false by simpa using k7];cases m.a6==8
 ·exact .same h
 ·exact ⟨h,rfl,d7m h hm,by simp⟩
structure d9b(n x:j8):Prop where
 id:x.Id=n.Id
 known:x.a7=n.a7
 seq:x.Seq=n.Seq
 busy:x.j3=n.j3
 prog:x.i7=n.i7
 want:x.b8=n.b8
theorem c3w(n:j8):d9b n (S4 n).1:=by
 unfold S4;cases n.f0 != 2||decide (40<=n.a7.length)
 ·simp only [f1D];obtain ⟨q,hq,_⟩:=b6Q n;cases hx:a1o n with
  | mk x o=>
  rw [hx] at hq;have hq:x={n with d6:=q}:=hq;subst hq;cases o with
  | none=>exact ⟨rfl,rfl,rfl,rfl,rfl,rfl⟩
  | some e=>
   simp only [a97];cases O8 n.Acc n.a8 (n.a7.length:Int) e<;>exact ⟨rfl,rfl,rfl,rfl,rfl,rfl⟩
 ·exact ⟨rfl,rfl,rfl,rfl,rfl,rfl⟩
def a1B(n:j8):List q9:=(A2 n.a7).1.i0
theorem b7v{n:j8}(h:NI n):F6 (a1B n)=true:=by
 obtain ⟨a,b⟩:=a76 h.list;have:=(a4N a b n.a7.length (f0q _)).1.boxes;rwa [f0o] at this
theorem d8o{n:j8}(h:NI n):b6r n=some (A2 n.a7).1:=by
 unfold b6r;rw [a7B h.ok,e9M,a0p.2 h];simp only [e9S,f1D];rw [e7s (okEntries.f h.ok.2.2.1) h.list];rfl
theorem e2V{l:List q9}{p:List r9}(h:(C5 l p).Code≠3):D6 p=true:=by
 unfold C5 at h;cases hp:D6 p
 ·rw [hp,Bool.and_false] at h;exact absurd rfl h
 ·rfl
def U9(n:j8)(prog:List r9):j8:={n with Seq:=n.Seq+1,j3:=true,i7:=prog,b8:=⟨false,⟨n.Id,n.Seq+1⟩,C5 (a1B n) prog⟩}
def M3(n:j8)(prog:List r9):Bool := !(n.j3||(n.Seq==1000||(C5 (a1B n) prog).Code==3))
theorem b5e{n:j8}{prog:List r9}:M3 n prog=true↔n.j3=false/\n.Seq≠1000/\(C5 (a1B n) prog).Code≠3:=by
 unfold M3;simp
theorem b3v{n:j8}(h:NI n){prog:List r9}(hp:u5 prog)(hc:M3 n prog=true):z6 (U9 n prog).b8=true/\D6 prog=true:=by
 obtain ⟨h1,h2,h3⟩:=b5e.1 hc;have hr:=(e2F (b7v h) hp).ok;have hs:=h.sq;have hid:=h.id;refine ⟨?_,e2V h3⟩;unfold z6 U9;simp only [f1D,e9R,H3,hr,true_and,bne_iff_ne,ne_eq];exact ⟨⟨hid,by omega⟩,h3⟩
theorem NI.asked{n:j8}(h:NI n){prog:List r9}(hp:u5 prog)(hc:M3 n prog=true):NI (U9 n prog):=by
 obtain ⟨h1,h2,h3⟩:=b5e.1 hc;obtain ⟨h4,h5⟩:=b3v h hp hc;have hs:=h.sq;exact ⟨h.id,h.pr,h.vl,h.vs,h.kl,h.ks,by show 0<=n.Seq+1/\n.Seq+1<=1000;omega,h.ql,h.qs,h.ld,.inl ⟨rfl,h5,h4,rfl,rfl⟩⟩
theorem a3H(n:j8)(prog:List r9):N9 n prog=bif M3 n prog then (bif n.f0==2 then S4 (U9 n prog) else (U9 n prog,bif n.f0==0 then O3 n.Id ⟨7,0,0,0,0,(U9 n prog).b8,[]⟩ else [])) else (n,[]):=by
 unfold N9 M3 U9 a1B;cases n.j3||(n.Seq==1000||(C5 (A2 n.a7).1.i0 prog).Code==3)<;>rfl
theorem d1E{n:j8}(h:NI n){prog:List r9}(hp:z9 32 okT prog):b2o n prog=some ((N9 n prog).1,(N9 n prog).2,[]):=by
 have hf:u5 prog:=hp.fits (by decide);have hs:=h.sq;unfold b2o;rw [a7B h.ok,e9M,a0p.2 h,a9h h.ok,d8o h,a3H];simp only [e9S,f1D,e9M];rw [show (A2 n.a7).1.i0=a1B n from rfl,e0b (a9E (b7v h)) hf,e9M];cases hb:n.j3
 ·cases hq:n.Seq==1000
  ·cases hc:(C5 (a1B n) prog).Code==3
   ·have hca:M3 n prog=true:=by unfold M3;rw [hb,hq,hc];rfl
    have hn:=h.asked hf hca;rw [hca];simp only [f1C,f1D];rw [t6 (by have:=hp.1;simp;omega),B8 (by omega) (by omega)];cases h2:n.f0==2
    ·cases h0:n.f0==0
     ·rfl
     ·simp only [f1D,f1C];rw [a6l h.id (show F9 ⟨7,0,0,0,0,⟨false,⟨n.Id,n.Seq+1⟩,C5 (a1B n) prog⟩,[]⟩ from a8k (w8 (by omega)) Z0 Z0 (a19 (b3v h hf hca).1) N7)];rfl
    ·simp only [f1C];rw [show (⟨n.Id,n.Acc,n.a7,n.Seq+1,n.f0,n.a8,n.c9,n.i4,n.c8,n.a0,true,[]++prog,⟨false,⟨n.Id,n.Seq+1⟩,C5 (a1B n) prog⟩,n.d6⟩:j8)=U9 n prog from rfl,b0V hn.ok hn.id,e9M]
   ·have hca:M3 n prog=false:=by unfold M3;rw [hb,hq,hc];rfl
    rw [hca];rfl
  ·have hca:M3 n prog=false:=by unfold M3;rw [hb,hq];rfl
   rw [hca];rfl
 ·have hca:M3 n prog=false:=by unfold M3;rw [hb];rfl
  rw [hca];rfl
theorem b3p{n:j8}(h:NI n){prog:List r9}(hp:u5 prog):R3 n (N9 n prog):=by
 rw [a3H];cases hc:M3 n prog
 ·exact .same h
 ·have hn:=h.asked hp hc;simp only [f1C];cases n.f0==2
  ·refine ⟨hn,rfl,fun x hx => ?_⟩;simp only [f1D] at hx;cases h0:n.f0==0
   ·rw [h0] at hx;cases hx
   ·rw [h0] at hx;exact a6p h.id (.ask (b3v h hp hc).1 rfl) (by simp) x hx
  ·exact R3.to (n:=n) (n':=U9 n prog) rfl (b1k hn)
theorem c2E{b who:Int}(hb:0<=b/\b<=3000)(hw:0<=who/\who<=2):N5 b who=-1\/(b<N5 b who/\N5 b who<=b+3/\N5 b who<=3000/\e9U (N5 b who) 3=who):=by
 unfold N5;cases h1:decide (b+1<=3000)&&(e9U (b+1) 3==who)
 ·cases h2:decide (b+2<=3000)&&(e9U (b+2) 3==who)
  ·cases h3:decide (b+3<=3000)&&(e9U (b+3) 3==who)
   ·exact .inl rfl
   ·simp only [e9R,decide_eq_true_eq,beq_iff_eq] at h3;exact .inr ⟨by simp only [f1C,f1D];omega,by simp only [f1C,f1D];omega,h3.1,h3.2⟩
  ·simp only [e9R,decide_eq_true_eq,beq_iff_eq] at h2;exact .inr ⟨by simp only [f1C,f1D];omega,by simp only [f1C,f1D];omega,h2.1,h2.2⟩
 ·simp only [e9R,decide_eq_true_eq,beq_iff_eq] at h1;exact .inr ⟨by simp only [f1C,f1D];omega,by simp only [f1C,f1D];omega,h1.1,h1.2⟩
theorem c71{n:j8}(h:NI n):a9G n=some (a1W n):=by
 unfold a9G a1W;rw [a7B h.ok,e9M,a0p.2 h,a9h h.ok];simp only [e9S,f1D,e9M];rw [d76 h.pr h.id,e9M];cases hd:decide (N5 n.Acc.i5 n.Id<0)
 ·simp only [decide_eq_false_iff_not] at hd;rcases c2E h.pr h.id with q|⟨q1,q2,q3,q4⟩
  ·omega
  ·have hpr:=h.pr;have hkl:=h.kl;obtain ⟨y,hy⟩:=c2f h.id;simp only [f1D,b3u,e9M,b3o,b4u (a:=n.Acc) (show 1<=N5 n.Acc.i5 n.Id by omega) q3 (by omega),hy,d6U h.ok.2.1.2];rw [t6 (by omega),t6 trivial,a6l h.id (a8k (w8 (by omega)) (w8 (by omega)) (w8 (by omega)) U8 N7)];rfl
 ·rfl
theorem b0U{n:j8}(h:NI n):R3 n (a1W n):=by
 unfold a1W;cases hd:decide (N5 n.Acc.i5 n.Id<0)
 ·simp only [decide_eq_false_iff_not] at hd;have hpr:=h.pr;have hkl:=h.kl;rcases c2E h.pr h.id with q|⟨q1,q2,q3,q4⟩
  ·omega
  ·obtain ⟨m1,m2⟩:=c1q h.id;refine ⟨⟨h.id,⟨by simp only [f1D];omega,q3⟩,h.vl,fun v hv=>⟨(h.vs v hv).1,Int.le_trans (h.vs v hv).2 (Int.le_of_lt q1)⟩,h.kl,h.ks,h.sq,h.ql,h.qs,.inr (.inl ⟨rfl,⟨by simp only [f1D];omega,q3,q4,Int.le_refl _,h.vl,fun v hv=>(h.vs v hv).1⟩,m1,m2,rfl,rfl⟩),h.wt⟩,rfl,?_⟩;exact a6p h.id (.one (.inl rfl) ⟨by omega,q3⟩) (by simp only;omega)
 ·exact .same h
theorem c7d{k b s:Int}(hk:0<=k/\k<=8)(hb:0<=b/\b<=3000)(hs:0<=s/\s<=40):F9 ⟨k,0,0,b,s,zE,[]⟩:=a8k (w8 (by omega)) (w8 (by omega)) (w8 (by omega)) U8 N7
theorem e7o{n:j8}(h:NI n):b3e n=some ((a0Z n).1,(a0Z n).2,[]):=by
 have hkl:=h.kl;have hb:=h.ld.bal;have l1:=a0k n.Id ⟨8,0,0,0,(n.a7.length:Int),zE,[]⟩;unfold b3e a0Z;rw [a7B h.ok,e9M,a0p.2 h,a9h h.ok];simp only [e9S,f1D,e9M];rw [a6l h.id (c7d (by omega) (by omega) (by omega)),e9M];cases h1:n.f0==1
 ·cases h2:n.f0==2
  ·cases h3:n.f0==3
   ·cases hbz:n.j3
    ·rfl
    ·simp only [f1C,f1D];have l2:=a0k n.Id ⟨7,0,0,0,0,n.b8,[]⟩;have hw:E0 n.b8:=h.ok.2.2.2.2.2.2.2.2.2.2.2.1;rw [a6l h.id (a8k (w8 (by omega)) Z0 Z0 hw N7),e9M,t6 (by omega)];rfl
   ·simp only [f1C,f1D];have l2:=a0k n.Id ⟨3,0,0,n.a8,(n.a7.length:Int),n.c8,[]⟩;rw [a6l h.id (a8k (w8 (by omega)) (w8 (by omega)) (w8 (by omega)) h.ld.from3.2.2 N7),e9M,t6 (by omega)];rfl
  ·simp only [f1C,f1D];have l2:=a6W n;rw [b0V h.ok h.id,e9M,t6 (by omega)];rfl
 ·simp only [f1C,f1D];have l2:=a0k n.Id ⟨1,0,0,n.a8,(n.a7.length:Int),zE,[]⟩;rw [a6l h.id (c7d (by omega) (by omega) (by omega)),e9M,t6 (by omega)];rfl
theorem b8i{n:j8}(h:NI n):R3 n (a0Z n):=by
 have hkl:=h.kl;have hb:=h.ld.bal;have a1:∀x∈O3 n.Id ⟨8,0,0,0,(n.a7.length:Int),zE,[]⟩,MI x:=a6p h.id .need (by simp only;omega)
 have U6:∀{l:List j9},(∀x∈l,MI x)->∀x∈O3 n.Id ⟨8,0,0,0,(n.a7.length:Int),zE,[]⟩++l,MI x:=by
  intro l hl x hx;rcases e9P.1 hx with q|q
  ·exact a1 x q
  ·exact hl x q
 unfold a0Z;by_cases h1:n.f0=1
 ·rw [show (n.f0==1)=true by simpa using h1];refine ⟨h,rfl,U6 (a6p h.id (.one (.inl rfl) ?_) (by simp only;omega))⟩;rcases h.ld with q|q|q|q
  ·omega
  ·exact ⟨q.2.1.b1,q.2.1.b2⟩
  all_goals exact absurd q.1 (by omega)
 rw [show (n.f0==1)=false by simpa using h1];by_cases h2:n.f0=2
 ·rw [show (n.f0==2)=true by simpa using h2];have:=b1k h;exact ⟨this.ni,this.id,U6 this.ms⟩
 rw [show (n.f0==2)=false by simpa using h2];by_cases h3:n.f0=3
 ·rw [show (n.f0==3)=true by simpa using h3];rcases h.ld with q|q|q|q
  ·omega
  ·omega
  ·omega
  ·exact ⟨h,rfl,U6 (a6p h.id (.accept ⟨q.2.1.b1,q.2.1.b2⟩ (by omega) q.2.2.2.1) (by simp only;omega))⟩
 rw [show (n.f0==3)=false by simpa using h3];cases hbz:n.j3
 ·exact ⟨h,rfl,a1⟩
 ·rcases h.wt with q|q
  ·exact ⟨h,rfl,U6 (a6p h.id (.ask q.2.2.1 q.2.2.2.1) (by simp))⟩
  ·rw [hbz] at q;cases q.1
theorem e9l{n:j8}(h:NI n):b2y n=some (a4d n):=by
 unfold b2y;rw [a7B h.ok,e9M,a0p.2 h,a9h h.ok];rfl
theorem NI.open{id:Int}(h:0<=id/\id<=2):NI (H5 id):=
 ⟨h,⟨by simp [H5],by simp [H5]⟩,by simp [H5],by simp [H5],by simp [H5],by simp [H5],⟨by simp [H5],by simp [H5]⟩,by simp [H5],by simp [H5],.inl ⟨rfl,rfl,rfl,rfl,rfl,rfl⟩,.inr ⟨rfl,rfl,rfl⟩⟩
theorem NI.fall{n:j8}(h:NI n):NI (a4d n):=
 ⟨h.id,h.pr,h.vl,h.vs,h.kl,h.ks,h.sq,by simp [a4d,H5],by simp [a4d,H5],.inl ⟨rfl,rfl,rfl,rfl,rfl,rfl⟩,.inr ⟨rfl,rfl,rfl⟩⟩
theorem c6K{l:List j9}(hl:u5 l)(ho:∀m∈l,F9 m):∀(d k:Nat) (net:List j9),l.length-k=d->s2 (fun s:(List j9)×Int=>a2s l s.1 s.2) (net,(k:Int))=some (.brk (net++(l.drop k).take (40-net.length)))
 | 0,k,net,hd=>by
  rw [e94 (by omega)];refine (D7 (b:=net) ?_).trans (by simp);show a2s l net (k:Int)=_
  unfold a2s;rw [show decide ((k:Int)<(l.length:Int))=false by simp;omega];rfl
 | d+1,k,net,hd=>by
  have hlt:k<l.length:=by omega
  by_cases hn:net.length<40
  ·have hb:a2s l net (k:Int)=some (.nxt (net++[l[k]],((k+1:Nat):Int))):=by
    unfold a2s;rw [z0 _ k hlt,show decide ((net.length:Int)<40)=true by simp;omega,f1C,f1C,u6 hlt,e9M,b4A (ho _ (e9Q hlt)),e9M,t6 (by omega),G0 hl hlt]
   rw [F7 (body:=fun s:(List j9)×Int=>a2s l s.1 s.2) (s:=(net,(k:Int))) hb,c6K hl ho d (k+1) _ (by omega),e98 hlt];rw [show 40-net.length=(40-(net++[l[k]]).length)+1 by simp;omega,f1b,e92];rfl
  ·refine (D7 (b:=net) ?_).trans (by rw [show 40-net.length=0 by omega];simp);show a2s l net (k:Int)=_
   unfold a2s;rw [z0 _ k hlt,show decide ((net.length:Int)<40)=false by simp;omega];rfl
theorem a5W(w:m8){l:List j9}(hl:u5 l)(ho:∀m∈l,F9 m):a0t w l=some (a1m w l):=by
 unfold a0t;rw [show s2 (fun s:(List j9)×Int=>a2s l s.1 s.2) (w.d8,0)=_ from c6K hl ho l.length 0 w.d8 rfl];rfl
theorem d0m{l:List o8}(hl:u5 l):∀(d k:Nat) (o:List o8),l.length-k=d->s2 (fun s:(List o8)×Int=>a14 l s.1 s.2) (o,(k:Int))=some (.brk (o++(l.drop k).take (60-o.length)))
 | 0,k,o,hd=>by
  rw [e94 (by omega)];refine (D7 (b:=o) ?_).trans (by simp);show a14 l o (k:Int)=_
  unfold a14;rw [show decide ((k:Int)<(l.length:Int))=false by simp;omega];rfl
 | d+1,k,o,hd=>by
  have hlt:k<l.length:=by omega
  by_cases hn:o.length<60
  ·have hb:a14 l o (k:Int)=some (.nxt (o++[l[k]],((k+1:Nat):Int))):=by
    unfold a14;rw [z0 _ k hlt,show decide ((o.length:Int)<60)=true by simp;omega,f1C,f1C,u6 hlt,e9M,t6 (by omega),G0 hl hlt]
   rw [F7 (body:=fun s:(List o8)×Int=>a14 l s.1 s.2) (s:=(o,(k:Int))) hb,d0m hl d (k+1) _ (by omega),e98 hlt];rw [show 60-o.length=(60-(o++[l[k]]).length)+1 by simp;omega,f1b,e92];rfl
  ·refine (D7 (b:=o) ?_).trans (by rw [show 60-o.length=0 by omega];simp);show a14 l o (k:Int)=_
   unfold a14;rw [z0 _ k hlt,show decide ((o.length:Int)<60)=false by simp;omega];rfl
theorem a6z(w:m8){l:List o8}(hl:u5 l):a0I w l=some (a7M w l):=by
 unfold a0I;rw [show s2 (fun s:(List o8)×Int=>a14 l s.1 s.2) (w.Told,0)=_ from d0m hl l.length 0 w.Told rfl];rfl
theorem a15(w:m8):a7M w []=w:=by
 unfold a7M;simp
theorem c3P(w:m8):a1m w []=w:=by
 unfold a1m;simp
theorem e5C{w:m8}{k:Nat}(hk:k<w.d8.length)(hl:w.d8.length<=40):b1V w (k:Int)=some (a90 w (k:Int)):=by
 unfold b1V a90;rw [t6 (by omega),t6 (by simp;omega),B8 (by omega) (by omega),t6 (by omega),t6 (by simp;omega)];simp only [f0H,f01,f0G,f1y,f0h,f0y,show ((k:Int)+1).toNat=k+1 by omega];rw [f0k (l:=w.d8.drop (k+1)) (by simp)]
theorem a32{w:m8}(h:WI w){i:Nat}(hi:i<3):∃n,w.b7[i]?=some n/\Q0 w (i:Int)=n/\n.Id=(i:Int)/\NI n/\i<w.b7.length:=by
 have hl:=h.nl;have hg:=e9N (l:=w.b7) (i:=i) (by omega);obtain ⟨h1,h2⟩:=h.ns i _ hg;refine ⟨_,hg,?_,h1,h2,by omega⟩;unfold Q0;rw [f0h,f0g,hg];rfl
theorem WI.put{w:m8}(h:WI w){i:Nat}{n:j8}(hid:n.Id=(i:Int))(hn:NI n):WI (a0b w (i:Int) n):=by
 refine ⟨by simp [a0b,h.nl],?_,h.ml,h.ms,h.al,h.aq,h.tl,h.ts⟩;intro j m hm;simp only [a0b,f0h] at hm;by_cases q:i=j
 ·subst q;have hlt:=(e9T.1 hm).1;rw [f0z] at hlt;rw [f0S hlt] at hm;injection hm with hm;subst hm;exact ⟨hid,hn⟩
 ·rw [f0a q] at hm;exact h.ns j m hm
theorem WI.send{w:m8}(h:WI w){l:List j9}(hl:∀m∈l,MI m):WI (a1m w l):=by
 have:=h.ml;refine ⟨h.nl,h.ns,by simp only [a1m,e91,f0e];omega,?_,h.al,h.aq,h.tl,h.ts⟩;intro m hm;rcases e9P.1 hm with q|q
 ·exact h.ms m q
 ·exact hl m (f0v q)
theorem WI.tell{w:m8}(h:WI w){l:List o8}(hl:∀t∈l,R6 t=true):WI (a7M w l):=by
 have:=h.tl;refine ⟨h.nl,h.ns,h.ml,h.ms,h.al,h.aq,by simp only [a7M,e91,f0e];omega,?_⟩;intro m hm;rcases e9P.1 hm with q|q
 ·exact h.ts m q
 ·exact hl m (f0v q)
theorem WI.off{w:m8}(h:WI w)(i:Int):WI (a90 w i):=by
 have:=h.ml;refine ⟨h.nl,h.ns,by simp only [a90,e91,f0e,List.length_drop];omega,?_,h.al,h.aq,h.tl,h.ts⟩;intro m hm;rcases e9P.1 hm with q|q
 ·exact h.ms m (f0v q)
 ·exact h.ms m (f0B q)
theorem a9W{l:List j9}(h:l.length<=100):u5 l:=by unfold u5;omega
theorem b9P(n:j8)(p:List r9):(N9 n p).2.length<=3:=by
 rw [a3H];cases M3 n p
 ·simp
 ·cases n.f0==2
  ·cases n.f0==0
   ·simp
   ·exact a0k _ _
  ·exact a6W _
theorem MI.okl{l:List j9}(h:∀m∈l,MI m):∀m∈l,F9 m:=fun m hm=>(h m hm).ok
theorem d2C(n:j8)(p:List r9):decide ((N9 n p).1.Seq>n.Seq)=M3 n p:=by
 rw [a3H];cases M3 n p
 ·simp
 ·simp only [f1C];cases n.f0==2
  ·simp [U9];omega
  ·have:=(c3w (U9 n p)).seq;simp only [f1C,this];simp [U9];omega
theorem c2N{n:j8}{p:List r9}(h:M3 n p=true):(N9 n p).1.b8=(U9 n p).b8:=by
 rw [a3H,h];simp only [f1C];cases n.f0==2
 ·rfl
 ·exact (c3w (U9 n p)).want
def d8s(w:m8)(a:C1):m8:={w with g7:=w.g7++[a]}
theorem WI.addAsked{w:m8}(h:WI w){a:C1}(hl:w.g7.length<60)(ha:W8 a=true):WI (d8s w a):=by
 refine ⟨h.nl,h.ns,h.ml,h.ms,by simp only [d8s,e91,f0M];omega,?_,h.tl,h.ts⟩;intro x hx;rcases e9P.1 hx with q|q
 ·exact h.aq x q
 ·rw [e9Z.1 q];exact ha
theorem d3T{w:m8}(h:WI w){i:Nat}(hi:i<3){p:List r9}(hp:z9 32 okT p):b0Z w (i:Int) p=some (a6m w (i:Int) p)/\WI (a6m w (i:Int) p):=by
 obtain ⟨n,hg,hn,hid,hni,hlt⟩:=a32 h hi;have hf:u5 p:=hp.fits (by decide);have hr:=b3p hni hf;have hln:=b9P n p;have hms:=MI.okl hr.ms;have hal:=h.al;unfold b0Z a6m;rw [hn,show decide ((w.g7.length:Int)>=60)=decide (60<=w.g7.length) by simp;omega,a7q,hg,e9M,d1E hni hp,e9M];cases hd:decide (60<=w.g7.length)
 ·simp only [f1D];simp only [decide_eq_false_iff_not] at hd;rw [d2C];cases hc:M3 n p
  ·simp only [f1D];rw [a5W _ (a9W (by omega)) hms,e9M,a6z _ (by simp [u5]),a15];exact ⟨rfl,(h.put (hr.id.trans hid) hr.ni).send hr.ms⟩
  ·simp only [f1C];rw [t6 (by have:=hp.1;simp;omega),t6 (by omega),a5W _ (a9W (by omega)) hms,e9M,a6z _ (by simp [u5]),a15];refine ⟨rfl,WI.send (w:=a0b (d8s w ⟨(N9 n p).1.b8.a5,p⟩) (i:Int) (N9 n p).1) (WI.put (w:=d8s w ⟨(N9 n p).1.b8.a5,p⟩) (h.addAsked (by omega) ?_) (hr.id.trans hid) hr.ni) hr.ms⟩;rw [c2N hc];obtain ⟨w1,w2⟩:=b3v hni hf hc;obtain ⟨c1,c2,c3⟩:=b5e.1 hc;unfold W8;have:=hni.id;have:=hni.sq;simp only [e9R,H3,w2,and_true];show (0<=n.Id/\n.Id<=2)/\1<=n.Seq+1/\n.Seq+1<=1000
   omega
 ·exact ⟨rfl,h⟩
theorem c2Z{n:j8}(h:NI n)(m:j9):(a1K n m).2.1.length<=60/\(a1K n m).2.2.length<=1:=by
 have hkl:=h.kl;have al:∀n:j8,(V6 n).2.length<=1:=fun n=>by
  rcases b65 n with q|⟨k,_,_,q⟩<;>rw [q]<;>simp
 have ll:∀(n:j8) (e:m5),(a05 n e).2.1.length<=3/\(a05 n e).2.2.length<=1:=fun n e=>⟨a6W _,al _⟩
 have nl:(a54 n m).length<=40:=by
  unfold a54;have:∀d k:Nat,((e9Y d).map fun j=>a1F n m (k+j)).flatten.length<=d:=by
   intro d k;rw [List.length_flatten,f1m];have hs:∀(l:List Nat),((l.map (List.length ∘ fun j=>a1F n m (k+j))).sum)<=l.length:=by
    intro l;induction l with
    | nil=>simp
    | cons x l ih=>
     simp only [f0j,List.sum_cons,f0D,Function.comp];have:(a1F n m (k+x)).length<=1:=by
      unfold a1F;cases n.a7[k+x]?<;>simp
     omega
   have:=hs (e9Y d);rwa [List.length_range] at this
  have:=this (n.a7.length-m.g8.toNat) m.g8.toNat;omega
 unfold a1K;cases m.a6==1
 ·cases m.a6==2
  ·cases m.a6==3
   ·cases m.a6==4
    ·cases m.a6==5
     ·cases m.a6==6
      ·cases m.a6==7
       ·cases m.a6==8
        ·exact ⟨by simp,by simp⟩
        ·exact ⟨by simp only [f1C,f1D];omega,by simp⟩
       ·refine ⟨?_,by simp⟩;simp only [f1C,f1D,a4h];cases n.f0==0||(decide (4<=n.d6.length)||M5 n.a7 m.g9.a5)
        ·exact f0c (a6W _) (by omega)
        ·simp
      ·exact ⟨by simp,by simp⟩
     ·simp only [f1C,f1D,a50];cases decide (m.g8<(n.a7.length:Int))
      ·cases decide (m.g8>(n.a7.length:Int))
       ·have:=ll n m.g9;exact ⟨by simp only [f1D];omega,by simp only [f1D];omega⟩
       ·exact ⟨by simp,by simp⟩
      ·exact ⟨by simp,by simp⟩
    ·simp only [f1C,f1D,a6n];cases n.f0 != 3||(m.a8 != n.a8||m.g8 != (n.a7.length:Int))
     ·cases U6 (n.a0.set m.c9.toNat true)
      ·exact ⟨by simp,by simp⟩
      ·have h1:=ll {n with a0:=n.a0.set m.c9.toNat true} n.c8;have h2:=a0k n.Id ⟨5,0,0,0,(n.a7.length:Int),n.c8,[]⟩;exact ⟨by simp only [f1C,f1D,e91];omega,by simp only [f1C,f1D];omega⟩
     ·exact ⟨by simp,by simp⟩
   ·refine ⟨?_,by simp⟩;simp only [f1C,f1D,a3V];cases O8 n.Acc m.a8 m.g8 m.g9<;>simp
  ·refine ⟨?_,by simp⟩;simp only [f1C,f1D,a4A];cases n.f0 != 1||m.a8 != n.a8
   ·cases U6 (n.c9.set m.c9.toNat true)
    ·simp
    ·exact f0c (a6W _) (by omega)
   ·simp
 ·refine ⟨?_,by simp⟩;simp only [f1C,a4G];cases J2 n.Acc m.a8<;>simp
theorem e7w{w:m8}(h:WI w)(e:w9):a4K w e=some (a2K w e)/\WI (a2K w e):=by
 have hml:=h.ml;unfold a4K a2K;by_cases h0:e.A<0
 ·rw [show decide (e.A<0)=true by simpa using h0,show decide (0<=e.A)=false by simp;omega];exact ⟨rfl,h⟩
 ·obtain ⟨k,hk⟩:∃k:Nat,e.A=(k:Int):=⟨e.A.toNat,by omega⟩
  rw [hk,show decide ((k:Int)<0)=false by simp,show decide (0<=(k:Int))=true by simp,f0h];simp only [f1C,f1D];by_cases hl:k<w.d8.length
  ·rw [show decide ((k:Int)>=(w.d8.length:Int))=false by simp;omega,u6 hl,e9N hl];have hm:=h.ms _ (e9Q hl);generalize w.d8[k]=m at hm;simp only [f1D,e9M,b4A hm.ok];cases e.a6==4
   ·simp only [f1D];rw [e5C hl hml];cases e.a6==3
    ·simp only [f1D,e9M];have ho:=h.off (k:Int);have ht:=hm.to;obtain ⟨t,htt⟩:∃t:Nat,m.To=(t:Int):=⟨m.To.toNat,by omega⟩
     obtain ⟨n,hg,hn,hid,hni,hlt⟩:=a32 ho (i:=t) (by omega);have hn':Q0 w (t:Int)=n:=hn;have hr:=b1w hni hm;obtain ⟨l1,l2⟩:=c2Z hni m;rw [htt,a7q,hg,e9M,d2B hni hm,e9M,hn'];rw [a5W _ (a9W (by omega)) (MI.okl hr.ms),e9M,a6z _ (by unfold u5;omega)];exact ⟨rfl,((ho.put (hr.id.trans hid) hr.ni).send hr.ms).tell hr.ts⟩
    ·exact ⟨rfl,h.off _⟩
   ·simp only [f1C];have hs:∀x∈[m],MI x:=fun x hx=>by rw [e9Z.1 hx];exact hm
    rw [a5W _ (a9W (by simp)) (MI.okl hs)];exact ⟨rfl,h.send hs⟩
  ·rw [show decide ((k:Int)>=(w.d8.length:Int))=true by simp;omega,f0i (by omega)];exact ⟨rfl,h⟩
def M1(e:w9):Prop:=z9 32 okT e.i7
theorem c09(n:j8):(a0Z n).2.length<=6:=by
 have l0:=a0k n.Id ⟨8,0,0,0,(n.a7.length:Int),zE,[]⟩;unfold a0Z;cases n.f0==1
 ·cases n.f0==2
  ·cases n.f0==3
   ·cases n.j3
    ·simp only [f1D];omega
    ·have:=a0k n.Id ⟨7,0,0,0,0,n.b8,[]⟩;simp only [f1C,f1D,e91];omega
   ·have:=a0k n.Id ⟨3,0,0,n.a8,(n.a7.length:Int),n.c8,[]⟩;simp only [f1C,f1D,e91];omega
  ·have:=a6W n;simp only [f1C,f1D,e91];omega
 ·have:=a0k n.Id ⟨1,0,0,n.a8,(n.a7.length:Int),zE,[]⟩;simp only [f1C,e91];omega
theorem b8T(n:j8):(a1W n).2.length<=3:=by
 unfold a1W;cases decide (N5 n.Acc.i5 n.Id<0)
 ·exact a0k _ _
 ·simp
theorem c1J{w:m8}{i:Nat}{n:j8}(h:w.b7[i]?=some n):a0b w (i:Int) n=w:=by
 unfold a0b;rw [f0h];obtain ⟨hi,rfl⟩:=e9T.1 h;rw [List.set_getElem_self]
theorem d4Q{w:m8}(h:WI w){i:Nat}(hi:i<3){p:List r9}(hp:z9 32 okT p):WI (a6m w (i:Int) p):=by
 obtain ⟨n,hg,hn,hid,hni,hlt⟩:=a32 h hi;have hf:u5 p:=hp.fits (by decide);have hr:=b3p hni hf;unfold a6m;rw [hn];cases hd:decide (60<=w.g7.length)
 ·simp only [f1D];simp only [decide_eq_false_iff_not] at hd;rw [d2C];cases hc:M3 n p
  ·simp only [f1D];exact (h.put (hr.id.trans hid) hr.ni).send hr.ms
  ·simp only [f1C];refine WI.send (w:=a0b (d8s w ⟨(N9 n p).1.b8.a5,p⟩) (i:Int) (N9 n p).1) (WI.put (w:=d8s w ⟨(N9 n p).1.b8.a5,p⟩) (h.addAsked (by omega) ?_) (hr.id.trans hid) hr.ni) hr.ms;rw [c2N hc];obtain ⟨w1,w2⟩:=b3v hni hf hc;obtain ⟨c1,c2,c3⟩:=b5e.1 hc;unfold W8;have:=hni.id;have:=hni.sq;simp only [e9R,H3,w2,and_true];show (0<=n.Id/\n.Id<=2)/\1<=n.Seq+1/\n.Seq+1<=1000
   omega
 ·exact h
theorem d9k{w:m8}(h:WI w)(e:w9):WI (a2K w e):=by
 unfold a2K;by_cases h0:e.A<0
 ·rw [show decide (0<=e.A)=false by simp;omega];exact h
 ·obtain ⟨k,hk⟩:∃k:Nat,e.A=(k:Int):=⟨e.A.toNat,by omega⟩
  rw [hk,show decide (0<=(k:Int))=true by simp,f0h];simp only [f1C];by_cases hl:k<w.d8.length
  ·rw [e9N hl];have hm:=h.ms _ (e9Q hl);generalize w.d8[k]=m at hm;simp only;cases e.a6==4
   ·simp only [f1D];cases e.a6==3
    ·simp only [f1D];have ho:=h.off (k:Int);have ht:=hm.to;obtain ⟨t,htt⟩:∃t:Nat,m.To=(t:Int):=⟨m.To.toNat,by omega⟩
     obtain ⟨n,hg,hn,hid,hni,hlt⟩:=a32 ho (i:=t) (by omega);have hn':Q0 w (t:Int)=n:=hn;have hr:=b1w hni hm;rw [htt,hn'];exact ((ho.put (hr.id.trans hid) hr.ni).send hr.ms).tell hr.ts
    ·exact h.off _
   ·simp only [f1C];have hs:∀x∈[m],MI x:=fun x hx=>by rw [e9Z.1 hx];exact hm
    exact h.send hs
  ·rw [f0i (by omega)];exact h
theorem b7e{w:m8}(h:WI w){e:w9}(he:z9 32 okT e.i7):WI (M4 w e):=by
 have n2:=d9k h e;unfold M4;cases e.a6==2||(e.a6==3||e.a6==4)
 ·simp only [f1D];cases hA:q8 e.A 0 2
  ·exact h
  rw [H3] at hA;obtain ⟨i,hi⟩:∃i:Nat,e.A=(i:Int):=⟨e.A.toNat,by omega⟩
  obtain ⟨n,hg,hn,hid,hni,hlt⟩:=a32 h (i:=i) (by omega);rw [hi,hn];simp only [e9S,f1D];cases e.a6==1
  ·cases e.a6==5
   ·cases e.a6==6
    ·cases e.a6==7
     ·exact h
     ·exact h.put hid hni.fall
    ·have hr:=b8i hni;exact (h.put (hr.id.trans hid) hr.ni).send hr.ms
   ·have hr:=b0U hni;exact (h.put (hr.id.trans hid) hr.ni).send hr.ms
  ·exact d4Q h (by omega) he
 ·exact n2
theorem b41{w:m8}(h:WI w){e:w9}(he:M1 e):a6D w e=some (M4 w e)/\WI (M4 w e):=by
 obtain ⟨n1,n2⟩:=e7w h e;unfold a6D M4;rw [n1];cases e.a6==2
 ·cases e.a6==3
  ·cases e.a6==4
   ·simp only [f1D,Bool.or_self];by_cases h0:e.A<0
    ·rw [show decide (e.A<0)=true by simpa using h0,show q8 e.A 0 2=false by unfold q8;simp;omega];exact ⟨rfl,h⟩
    ·by_cases h3:e.A>=3
     ·rw [show decide (e.A<0)=false by simpa using h0,show decide (e.A>=3)=true by simpa using h3,show q8 e.A 0 2=false by unfold q8;simp;omega];exact ⟨rfl,h⟩
     ·obtain ⟨i,hi⟩:∃i:Nat,e.A=(i:Int):=⟨e.A.toNat,by omega⟩
      rw [show decide (e.A<0)=false by simpa using h0,show decide (e.A>=3)=false by simpa using h3,show q8 e.A 0 2=true by unfold q8;simp;omega,hi];simp only [f1D,e9S];obtain ⟨n,hg,hn,hid,hni,hlt⟩:=a32 h (i:=i) (by omega);rw [a7q,hg,e9M,hn];cases e.a6==1
      ·simp only [f1D];cases e.a6==5
       ·simp only [f1D];cases e.a6==6
        ·simp only [f1D];cases e.a6==7
         ·simp only [f1D];rw [a5W _ (by simp [u5]) (by simp),e9M,a6z _ (by simp [u5]),a15,c3P];exact ⟨congrArg some (c1J hg),h⟩
         ·simp only [f1C];rw [e9l hni,e9M,a5W _ (by simp [u5]) (by simp),e9M,a6z _ (by simp [u5]),a15,c3P];exact ⟨rfl,h.put hid hni.fall⟩
        ·simp only [f1C];have hr:=b8i hni;have hl:=c09 n;rw [e7o hni,e9M,a5W _ (a9W (by omega)) (MI.okl hr.ms),e9M,a6z _ (by simp [u5]),a15];exact ⟨rfl,(h.put (hr.id.trans hid) hr.ni).send hr.ms⟩
       ·simp only [f1C];have hr:=b0U hni;have hl:=b8T n;rw [c71 hni,e9M,a5W _ (a9W (by omega)) (MI.okl hr.ms),e9M,a6z _ (by simp [u5]),a15];exact ⟨rfl,(h.put (hr.id.trans hid) hr.ni).send hr.ms⟩
      ·simp only [f1C];obtain ⟨a1,a2⟩:=d3T h (i:=i) (by omega) he;unfold b9u;rw [hi,show (⟨w.b7.set (i:Int).toNat n,w.d8,w.g7,w.Told⟩:m8)=w from c1J hg,a1];exact ⟨rfl,a2⟩
   ·exact ⟨rfl,n2⟩
  ·exact ⟨rfl,n2⟩
 ·exact ⟨rfl,n2⟩
theorem WI.open:WI a1u:=by
 refine ⟨rfl,?_,by simp [a1u],by simp [a1u],by simp [a1u],by simp [a1u],by simp [a1u],by simp [a1u]⟩;intro i n hn;match i,hn with
 | 0,hn=>injection hn with hn;subst hn;exact ⟨rfl,.open (by omega)⟩
 | 1,hn=>injection hn with hn;subst hn;exact ⟨rfl,.open (by omega)⟩
 | 2,hn=>injection hn with hn;subst hn;exact ⟨rfl,.open (by omega)⟩
 | i+3,hn=>simp [a1u] at hn
theorem e0M:b5B=some a1u:=by
 have e:∀(ns:List j8) (i:Nat),i<3->ns.length<=3->a2T ns (i:Int)=some (.nxt (ns++[H5 (i:Int)],((i+1:Nat):Int))):=by
  intro ns i hi hn;unfold a2T a8N;rw [show decide ((i:Int)<3)=true by simp;omega,show decide ((i:Int)<0)=false by simp,show decide ((i:Int)>=3)=false by simp;omega];simp only [f1C,f1D,e9M];rw [t6 (by omega),B8 (by omega) (by omega)];rfl
 have h0:=F7 (body:=fun s:(List j8)×Int=>a2T s.1 s.2) (s:=([],((0:Nat):Int))) (e [] 0 (by omega) (by simp));have h1:=F7 (body:=fun s:(List j8)×Int=>a2T s.1 s.2) (s:=([H5 0],((1:Nat):Int))) (e [H5 0] 1 (by omega) (by simp));have h2:=F7 (body:=fun s:(List j8)×Int=>a2T s.1 s.2) (s:=([H5 0,H5 1],((2:Nat):Int))) (e [H5 0,H5 1] 2 (by omega) (by simp));have h3:=D7 (body:=fun s:(List j8)×Int=>a2T s.1 s.2) (s:=([H5 0,H5 1,H5 2],((3:Nat):Int))) (show a2T [H5 0,H5 1,H5 2] 3=_ from rfl);unfold b5B;rw [show s2 (fun s:(List j8)×Int=>a2T s.1 s.2) ([],0)=_ from h0.trans (h1.trans (h2.trans h3))];rfl
theorem c10{w:m8}(h:WI w):∀{l:List w9},(∀e∈l,M1 e)->WI (a06 w l)
 | [],_=>h
 | e::l,he=>c10 (w:=M4 w e) (b7e h (he e (by simp))) (l:=l) fun x hx=>he x (by simp [hx])
theorem d05{w:m8}(h:a0u w):b0Y w=some w:=by
 obtain ⟨h1,h2,h3,h4⟩:=h;have b1:=h1.1;have b2:=h2.1;have b3:=h3.1;unfold b0Y;rw [t6 (b0S h4),a59 (body:=fun s:(List j8)×Int=>b1o w s.1 s.2) w.b7 (h1.fits (by decide)) (fun l=>l) (by
  intro k hk;have hn:((w.b7.take k).length+1)*392<=140737488355328:=f0c (f0b 392 (show (w.b7.take k).length+1<=w.b7.length by rw [f0e];omega)) (f0c b1 (by decide));unfold b1o;rw [z0 _ k hk,u6 hk];simp only [f1C,e9M,a9h (h1.2 _ (e9Q hk)),t6 hn]) (by
  unfold b1o;rw [B7];rfl)]
 simp only [e9M,l8.go];unfold c25;rw [a59 (body:=fun s:(List j9)×Int=>b15 w s.1 s.2) w.d8 (h2.fits (by decide)) (fun l=>l) (by
  intro k hk;have hn:((w.d8.take k).length+1)*152<=140737488355328:=f0c (f0b 152 (show (w.d8.take k).length+1<=w.d8.length by rw [f0e];omega)) (f0c b2 (by decide));unfold b15;rw [z0 _ k hk,u6 hk];simp only [f1C,e9M,b4A (h2.2 _ (e9Q hk)),t6 hn]) (by
  unfold b15;rw [B7];rfl)]
 simp only [e9M,l8.go];unfold c2D;rw [a59 (body:=fun s:(List C1)×Int=>b3J w s.1 s.2) w.g7 (h3.fits (by decide)) (fun l=>l) (by
  intro k hk;unfold b3J;have hp:=(h3.2 _ (e9Q hk)).2;have hn:((w.g7.take k).length+1)*40<=140737488355328:=f0c (f0b 40 (show (w.g7.take k).length+1<=w.g7.length by rw [f0e];omega)) (f0c b3 (by decide));rw [z0 _ k hk,u6 hk];simp only [f1C,e9M,t6 (b0S hp),t6 hn,f0H]) (by
  unfold b3J;rw [B7];rfl)]
 rfl
theorem d0k{l:List w9}(hl:u5 l)(he:∀e∈l,M1 e):∀(d k:Nat) (w:m8),WI w->l.length-k=d->s2 (fun s:(List j8)×(List j9)×(List C1)×(List o8)×Int=>a4c l s.1 s.2.1 s.2.2.1 s.2.2.2.1 s.2.2.2.2) (w.b7,w.d8,w.g7,w.Told,(k:Int))=some (.brk ((a06 w (l.drop k)).b7,(a06 w (l.drop k)).d8,(a06 w (l.drop k)).g7,(a06 w (l.drop k)).Told))
 | 0,k,w,h,hd=>by
  rw [e94 (by omega)];refine D7 ?_;show a4c l w.b7 w.d8 w.g7 w.Told (k:Int)=_
  unfold a4c;rw [show decide ((k:Int)<(l.length:Int))=false by simp;omega];rfl
 | d+1,k,w,h,hd=>by
  have hlt:k<l.length:=by omega
  obtain ⟨h1,h2⟩:=b41 h (he _ (e9Q hlt));have hb:a4c l w.b7 w.d8 w.g7 w.Told (k:Int)=some (.nxt ((M4 w l[k]).b7,(M4 w l[k]).d8,(M4 w l[k]).g7,(M4 w l[k]).Told,((k+1:Nat):Int))):=by
   unfold a4c;rw [z0 _ k hlt,u6 hlt,f1C,e9M,show (⟨w.b7,w.d8,w.g7,w.Told⟩:m8)=w from rfl,h1,e9M,G0 hl hlt]
  rw [F7 (body:=fun s:(List j8)×(List j9)×(List C1)×(List o8)×Int=>a4c l s.1 s.2.1 s.2.2.1 s.2.2.2.1 s.2.2.2.2) (s:=(w.b7,w.d8,w.g7,w.Told,(k:Int))) hb,d0k hl he d (k+1) _ h2 (by omega),e98 hlt];rfl
def noW:m8:=⟨[],[],[],[]⟩
theorem e68{w:m8}(h:a0u w){l:List w9}(hl:u5 l)(he:∀e∈l,M1 e):b4y w l=some (bif L3 w&&decide (l.length<=400) then a06 w l else noW):=by
 unfold b4y;rw [c2j h,e9M,d05 h,show decide ((l.length:Int)>400) = !decide (l.length<=400) from a9O l 400];cases hw:L3 w
 ·rfl
 ·cases decide (l.length<=400)
  ·rfl
  ·simp only [e9S,f1D,e9M,f1u,f1C];rw [show s2 (fun s:(List j8)×(List j9)×(List C1)×(List o8)×Int=>a4c l s.1 s.2.1 s.2.2.1 s.2.2.2.1 s.2.2.2.2) (w.b7,w.d8,w.g7,w.Told,0)=_ from d0k hl he l.length 0 w (a8n.1 hw) rfl];rfl
theorem a07{k a:Int}{p:List r9}(h:p.length<=10):M1 ⟨k,a,p⟩:=⟨by show p.length*32<=_;omega,fun _ _=>trivial⟩
theorem d0z(n:Int):∃v,b2C 1 n=some v:=by
 unfold b2C;cases decide ((1:Int)>n)<;>exact ⟨_,rfl⟩
theorem d6u{r:o6}{m:Nat}(h:Rd r m)(hm:m<=1000000)(w:m8):∃e r',b7V r w=some (e,r',w)/\Rd r' (m+210)/\M1 e:=by
 obtain ⟨v,hv⟩:=d0z (w.d8.length:Int);obtain ⟨a,r1,e1,h1,_⟩:=C7 h (by omega) v;obtain ⟨b,r2,e2,h2,_⟩:=C7 h1 (by omega) 24;have ask:∃e r',((A3 r2 3).bind fun p=>(a0o p.2).bind fun q=>some (w9.mk 1 p.1 q.1,q.2,w))=some (e,r',w)/\Rd r' (m+210)/\M1 e:=by
  obtain ⟨c,r3,e3,h3,_⟩:=C7 h2 (by omega) 3;obtain ⟨p,r4,e4,h4,hp⟩:=a9Q h3 (by omega);rw [e3,e9M,e4,e9M];exact ⟨_,_,rfl,h4.mono (by omega),a07 hp⟩
 obtain ⟨c3,r3,e3,h3,_⟩:=C7 h2 (by omega) 3;obtain ⟨c4,r4,e4,h4,_⟩:=C7 h2 (by omega) 2;obtain ⟨c5,r5,e5,h5,_⟩:=C7 h4 (by omega) 3;obtain ⟨c6,r6,e6,h6,_⟩:=C7 h3 (by omega) 10;obtain ⟨c7,r7,e7,h7,_⟩:=C7 h6 (by omega) 5;obtain ⟨p,r8,e8,h8,hp⟩:=a9Q h3 (by omega);have z:∀(k x:Int) (r:o6) (j:Nat),Rd r j->j<=m+210->∃e r',(some (w9.mk k x [],r,w):Option (w9×o6×m8))=some (e,r',w)/\Rd r' (m+210)/\M1 e:=fun k x r j hr hj=>⟨_,_,rfl,hr.mono hj,a07 (by simp)⟩
 unfold b7V;rw [hv,e9M,e1,e9M,e2,e9M];simp only [e3,e4,e5,e6,e7,e8,e9M];cases b==0
 ·cases b==1
  ·cases b==2
   ·cases b==3
    ·cases b==4
     ·cases b==5
      ·cases b==6
       ·cases b==7
        ·cases b==8
         ·cases b==9
          ·cases b==10
           ·exact z _ _ _ _ h2 (by omega)
           ·cases c3==0
            ·exact z _ _ _ _ h3 (by omega)
            ·exact z _ _ _ _ h7 (by omega)
          ·exact z _ _ _ _ h2 (by omega)
         ·exact z _ _ _ _ h2 (by omega)
        ·cases c4==0
         ·exact z _ _ _ _ h4 (by omega)
         ·exact z _ _ _ _ h5 (by omega)
       ·exact z _ _ _ _ h3 (by omega)
      ·exact z _ _ _ _ h3 (by omega)
     ·exact z _ _ _ _ h3 (by omega)
    ·exact ⟨_,_,rfl,h8.mono (by omega),a07 hp⟩
   ·exact ⟨_,_,rfl,h8.mono (by omega),a07 hp⟩
  ·exact ⟨_,_,rfl,h8.mono (by omega),a07 hp⟩
 ·exact ⟨_,_,rfl,h8.mono (by omega),a07 hp⟩
structure Far(w:m8)(out:List w9)(b:Nat):Prop where
 w:WI w
 e:∀x∈out,M1 x
 l:out.length<=b
theorem c9n{out:List w9}{e:w9}(h:∀x∈out,M1 x)(he:M1 e):∀x∈out++[e],M1 x:=by
 intro x hx;rcases e9P.1 hx with q|q
 ·exact h x q
 ·rw [e9Z.1 q];exact he
theorem a7X{α:Type}{l:List α}(z:α)(b:Nat)(h:l.length*b<=140737488351232):(bif ((l.length:Int)==0) then some [] else s5 (0<=(l.length:Int)/\(l.length:Int)*(b:Int)<=140737488355328) (s5 (l.length=(e9O (l.length:Int).toNat z).length) (some l)))=some l:=by
 cases hl:((l.length:Int)==0)
 ·have:(l.length:Int)*(b:Int)=((l.length*b:Nat):Int):=by rw [Int.natCast_mul]
  rw [f1D,t6 ⟨by omega,by omega⟩,t6 (by simp)]
 ·simp only [beq_iff_eq] at hl;rw [e90 (by omega:l.length=0)];rfl
theorem b5v{α R:Type}{body:List α×Int->Option (l9 R (List α×Int) (List α))}(l:List α)(hl:u5 l)(h1:∀(k:Nat) (hk:k<l.length),body (l,(k:Int))=some (.nxt (l.set k l[k],m4 ((k:Int)+1))))(h2:body (l,(l.length:Int))=some (.brk l)):s2 body (l,0)=some (.brk l):=by
 have:=a0n (body:=body) (fun k=>(l,(k:Int))) l.length fun k hk=>by rw [h1 k hk,G0 hl hk,List.set_getElem_self]
 exact this.trans (D7 h2)
theorem a6b{α:Type}{body:Int->Option (l9 Bool Int Unit)}(l:List α)(hl:u5 l)(h1:∀(k:Nat) (hk:k<l.length),body (k:Int)=some (.nxt (m4 ((k:Int)+1))))(h2:body (l.length:Int)=some (.brk ())):s2 body 0=some (.brk ()):=by
 have:=a0n (body:=body) (fun k=>(k:Int)) l.length fun k hk=>by rw [h1 k hk,G0 hl hk]
 exact this.trans (D7 h2)
theorem b4U{l:List m6}(h:z9 96 G3 l):a6O l=some l:=by
 unfold a6O;rw [show b8L l=some l from a7X _ 96 h.1,e9M,b5v l (h.fits (by decide))]
 ·rfl
 ·intro k hk;unfold b7u;rw [z0 _ k hk,f1C,u6 hk,e9M,b0y (h.2 _ (e9Q hk)).2];rfl
 ·unfold b7u;rw [B7];rfl
theorem b4F{x:v5}(h:a5N x):a4p x=some x:=by
 unfold a4p;rw [b4U h.2];rfl
theorem c6E{l:List Bool}(h:z9 1 okT l):b4R l=some l:=a7X _ 1 h.1
theorem d1v{l:List r9}(h:l.length*32<=140737488351232):b7Q l=some l:=a7X _ 32 h
theorem c4d{l:List o8}(h:l.length*40<=140737488351232):b5p l=some l:=a7X _ 40 h
theorem b7r{n:j8}(h:P8 n):a8o n=some n:=by
 obtain ⟨h1,h2,h3,h4,h5,h6,h7,h8,h9,h10,h11,h12,h13⟩:=h;unfold a8o;rw [b4F h2,e9M,d2Q h3,e9M,c6E h7,e9M,b4U h8,e9M,b0y h9,e9M,c6E h10,e9M,d1v h11.1,e9M,b0y h12,e9M,d2Q h13];rfl
theorem d9f{m:j9}(h:F9 m):b4I m=some m:=by
 unfold b4I;rw [b0y h.2.2.2.2.2.1,e9M,b4U h.2.2.2.2.2.2];rfl
theorem d0l{l:List j9}(h:z9 152 F9 l):b1Z l=some l:=by
 unfold b1Z;rw [show c0N l=some l from a7X _ 152 h.1,e9M,b5v l (h.fits (by decide))]
 ·rfl
 ·intro k hk;unfold b4d;rw [z0 _ k hk,f1C,u6 hk,e9M,d9f (h.2 _ (e9Q hk))];rfl
 ·unfold b4d;rw [B7];rfl
theorem c3B{w:m8}(h:a0u w):a2o w=some w:=by
 obtain ⟨h1,h2,h3,h4⟩:=h;unfold a2o c0X;rw [show b93 w.b7=some w.b7 from a7X _ 392 h1.1,e9M,d0l h2,e9M,show c07 w.g7=some w.g7 from a7X _ 40 h3.1,e9M,c4d h4.1,e9M,b5v w.b7 (h1.fits (by decide))]
 ·simp only [e9M,l8.go];rw [b5v w.g7 (h3.fits (by decide))]
  ·rfl
  ·intro k hk;unfold b3T;rw [z0 _ k hk,f1C,u6 hk,e9M,d1v (h3.2 _ (e9Q hk)).2.1];rfl
  ·unfold b3T;rw [B7];rfl
 ·intro k hk;unfold b6X;rw [z0 _ k hk,f1C,u6 hk,e9M,b7r (h1.2 _ (e9Q hk))];rfl
 ·unfold b6X;rw [B7];rfl
theorem b3i{e:m5}(h:E0 e):a0c e e=some true:=by
 unfold a0c;have:a3e e.b9 e.b9=true:=(c2k _ _).2 rfl;simp only [beq_self_eq_true,f1C,b9j h.2.f,this,e9M]
theorem c1N{l:List m6}(h:z9 96 G3 l):b0g l l=some true:=by
 unfold b0g;rw [bne_self_eq_false,f1D,a6b l (h.fits (by decide))]
 ·rfl
 ·intro k hk;unfold b63;simp only [z0 _ k hk,f1C,u6 hk,e9M,bne_self_eq_false,f1D,b3i (h.2 _ (e9Q hk)).2,e9S]
 ·unfold b63;rw [B7];rfl
theorem c4p{l:List m5}(h:z9 88 E0 l):b05 l l=some true:=by
 unfold b05;rw [bne_self_eq_false,f1D,a6b l (h.fits (by decide))]
 ·rfl
 ·intro k hk;unfold b32;simp only [z0 _ k hk,f1C,u6 hk,e9M,f1D,b3i (h.2 _ (e9Q hk)),e9S]
 ·unfold b32;rw [B7];rfl
theorem c9F{l:List Bool}(h:u5 l):b0P l l=some true:=by
 unfold b0P;rw [bne_self_eq_false,f1D,a6b l h]
 ·rfl
 ·intro k hk;unfold b7f;simp only [z0 _ k hk,f1C,u6 hk,e9M,beq_self_eq_true,f1D,e9S]
 ·unfold b7f;rw [B7];rfl
theorem d0o{l:List r9}(h:u5 l):b10 l l=some true:=by
 unfold b10 c3M;rw [bne_self_eq_false,f1D,a6b l h]
 ·rfl
 ·intro k hk;unfold b4o;simp only [z0 _ k hk,f1C,u6 hk,e9M,beq_self_eq_true,f1D,e9S]
 ·unfold b4o;rw [B7];rfl
theorem e01{l:List o8}(h:u5 l):b46 l l=some true:=by
 unfold b46;rw [bne_self_eq_false,f1D,a6b l h]
 ·rfl
 ·intro k hk;unfold b5h;simp only [z0 _ k hk,f1C,u6 hk,e9M,beq_self_eq_true,f1D,e9S]
 ·unfold b5h;rw [B7];rfl
theorem e2p{n:j8}(h:P8 n):b4D n n=some true:=by
 obtain ⟨h1,h2,h3,h4,h5,h6,h7,h8,h9,h10,h11,h12,h13⟩:=h;unfold b4D c0s;simp only [beq_self_eq_true,f1C,c1N h2.2,c4p h3,c9F (h7.fits (by decide)),c1N h8,b3i h9,c9F (h10.fits (by decide)),d0o (h11.fits (by decide)),b3i h12,c4p h13,e9M]
theorem b6z{w:m8}(h:a0u w):a9t w w=some true:=by
 obtain ⟨h1,h2,h3,h4⟩:=h;unfold a9t c1b b8D;simp only [bne_self_eq_false,f1D,e01 (h4.fits (by decide)),e9M,e9S];rw [a6b w.b7 (h1.fits (by decide)) (fun k hk=>by
  unfold b7q;simp only [z0 _ k hk,f1C,u6 hk,e9M,e2p (h1.2 _ (e9Q hk)),f1D,e9S]) (by unfold b7q;rw [B7];rfl)]
 simp only [e9M,l8.go];rw [a6b w.d8 (h2.fits (by decide)) (fun k hk=>by
  have:=h2.2 _ (e9Q hk);unfold b4a b94;simp only [z0 _ k hk,f1C,u6 hk,e9M,beq_self_eq_true,b3i this.2.2.2.2.2.1,c1N this.2.2.2.2.2.2,f1D,e9S]) (by unfold b4a;rw [B7];rfl)]
 simp only [e9M,l8.go];rw [a6b w.g7 (h3.fits (by decide)) (fun k hk=>by
  unfold b43;simp only [z0 _ k hk,f1C,u6 hk,e9M,beq_self_eq_true,d0o ((h3.2 _ (e9Q hk)).2.fits (by decide)),f1D,e9S]) (by unfold b43;rw [B7];rfl)]
 rfl
theorem d13{a:p6}(h:u5 a.n.a7)(q:s3):b2Q a q=some (M5 a.n.a7 q,a):=by
 unfold b2Q;rw [c2G h,e9M,c3F];cases a.n.a7.findIdx? (O0 q) with
 | none=>rfl
 | some k=>simp
theorem e2L{a:p6}(h:u5 a.n.a7)(q:s3):b8y a q=some (M5 a.n.a7 q,a):=by
 unfold b8y;rw [c2G h,e9M,c3F];cases a.n.a7.findIdx? (O0 q) with
 | none=>rfl
 | some k=>simp
def qA(a:p6)(q:List m5):p6:=⟨{a.n with d6:=q},a.out,a.told⟩
theorem e6K{a:p6}{q:List m5}(h:a.n.d6=q):qA a q=a:=by
 subst h;rfl
theorem c7p{known:List m5}(hk:u5 known):∀(q:List m5) (a:p6),a.n.a7=known->z9 88 E0 q->a.n.d6=q->s2 (fun s:p6=>a4F s) a=some (match Q9 known q with
  | (q',some e)=>.ret (e,true,qA a q')
  | (q',none)=>.brk (qA a q'))
 | [],a,h1,_,h2=>by
  rw [D7 (body:=fun s:p6=>a4F s) (b:=a) (by unfold a4F;rw [h2];rfl)];show _=some (l8.brk (qA a []))
  rw [e6K h2]
 | e::q,a,h1,hq,h2=>by
  have hl:(e::q).length*88<=140737488351232:=hq.1;rw [f0D] at hl;have hb:a4F a=some (bif M5 known e.a5 then .nxt (qA a q) else .ret (e,true,qA a q)):=by
   unfold a4F;rw [h2,show idx (e::q) 0=some e from rfl,show decide ((((e::q).length:Nat):Int)>0)=true by simp,f1C,e9M,t6 (by simp;omega),show ((e::q).drop (1:Int).toNat).take ((e::q).length-(1:Int).toNat)=q by simp];rw [show (⟨⟨a.n.Id,a.n.Acc,a.n.a7,a.n.Seq,a.n.f0,a.n.a8,a.n.c9,a.n.i4,a.n.c8,a.n.a0,a.n.j3,a.n.i7,a.n.b8,q⟩,a.out,a.told⟩:p6)=qA a q from rfl,d13 (a:=qA a q) (by show u5 a.n.a7;rw [h1];exact hk),e9M,show (qA a q).n.a7=known from h1];cases M5 known e.a5<;>rfl
  unfold Q9;cases hkn:M5 known e.a5
  ·rw [Y9 (body:=fun s:p6=>a4F s) (r:=(e,true,qA a q)) (by rw [hb,hkn];rfl)];rfl
  ·rw [F7 (body:=fun s:p6=>a4F s) (t:=qA a q) (by rw [hb,hkn];rfl),c7p hk q (qA a q) h1 ⟨by omega,fun x hx=>hq.2 x (f1s _ hx)⟩ rfl];rfl
def b1U(a:p6)(x:j8×Option m5):m5×Bool×p6:=match x with
 | (n,some e)=>(e,true,⟨n,a.out,a.told⟩)
 | (n,none)=>(zE,false,⟨n,a.out,a.told⟩)
theorem d8J{a:p6}(hf:u5 a.n.i4)(hv:∀v∈a.n.i4,0<=v.a8):∀(m k:Nat),a.n.i4.length-k=m->s2 (fun s:Int=>a4v a s) (k:Int)=some (bif (a.n.i4.drop k).any (fun v=>decide (v.a8>0)) then .ret (eN,true,a) else .brk ()):=by
 intro m;induction m with
 | zero=>
  intro k hk;rw [D7 (body:=fun s:Int=>a4v a s) (b:=()) (by unfold a4v;rw [show decide ((k:Int)<(a.n.i4.length:Int))=false by simp;omega];rfl),e94 (by omega)];rfl
 | succ m ih=>
  intro k hk;have hlt:k<a.n.i4.length:=by omega
  have hb:a4v a (k:Int)=some (bif decide (a.n.i4[k].a8>0) then .ret (eN,true,a) else .nxt ((k+1:Nat):Int)):=by
   have h0:=hv _ (e9Q hlt);unfold a4v;rw [z0 _ k hlt,f1C,u6 hlt,e9M,G0 hf hlt,show (a.n.i4[k].a8 != 0)=decide (a.n.i4[k].a8>0) by
    rw [Bool.eq_iff_iff];simp;omega]
   cases decide (a.n.i4[k].a8>0)<;>rfl
  rw [e98 hlt,List.any_cons];cases hd:decide (a.n.i4[k].a8>0)
  ·rw [hd] at hb;rw [F7 (body:=fun s:Int=>a4v a s) hb,ih (k+1) (by omega),f0p]
  ·rw [hd] at hb;rw [Y9 (body:=fun s:Int=>a4v a s) hb,f1p];rfl
theorem e52{a:p6}(h:P8 a.n)(hv:∀v∈a.n.i4,0<=v.a8):b69 a=some (b1U a (a1o a.n)):=by
 obtain ⟨h1,h2,h3,h4,h5,h6,h7,h8,h9,h10,h11,h12,h13⟩:=h;have hk:u5 a.n.a7:=h3.fits (by decide);have hbf:u5 a.n.i4:=h8.fits (by decide);have j1:b7X a=some (b1U a ({a.n with d6:=(Q9 a.n.a7 a.n.d6).1},(Q9 a.n.a7 a.n.d6).2)):=by
  unfold b7X;rw [c7p hk _ a rfl h13 rfl];obtain ⟨q,o⟩:=Q9 a.n.a7 a.n.d6;cases o<;>rfl
 have j2:(∀v,a.n.i4[a.n.a7.length]?=some v->¬v.a8>0)->b5V a=some (b1U a (a30 a.n)):=by
  intro hn;have hd:(a.n.i4.drop (a.n.a7.length+1)).any (fun v=>decide (v.a8>0))=(a.n.i4.drop a.n.a7.length).any (fun v=>decide (v.a8>0)):=by
   by_cases hl:a.n.a7.length<a.n.i4.length
   ·rw [e98 hl,List.any_cons,show decide (a.n.i4[a.n.a7.length].a8>0)=false by
     simpa using hn _ (e9N hl),f0p]
   ·rw [e94 (by omega),e94 (by omega)]
  unfold b5V a30;rw [B8 (by omega) (by have:=h3.1;omega),show ((a.n.a7.length:Int)+1)=((a.n.a7.length+1:Nat):Int) from rfl,d8J hbf hv _ _ rfl,hd];generalize (({a.n with d6:=(Q9 a.n.a7 a.n.d6).1},(Q9 a.n.a7 a.n.d6).2):j8×Option m5)=X at j1⊢;cases (a.n.i4.drop a.n.a7.length).any fun v=>decide (v.a8>0)
  ·simp only [f1D,e9M,l8.go];unfold c0q;cases a.n.j3
   ·exact j1
   ·simp only [f1C,d13 hk,e9M,e95];cases M5 a.n.a7 a.n.b8.a5
    ·rfl
    ·exact j1
  ·rfl
 unfold b69 a1o;by_cases hl:a.n.a7.length<a.n.i4.length
 ·rw [z0 _ _ hl,u6 hl,e9N hl];have h0:=hv _ (e9Q hl);rw [f1C,e9M,show (a.n.i4[a.n.a7.length].a8 != 0)=decide (a.n.i4[a.n.a7.length].a8>0) by rw [Bool.eq_iff_iff];simp;omega];simp only;cases hd:decide (a.n.i4[a.n.a7.length].a8>0)
  ·exact j2 (by rw [e9N hl];intro v hv;injection hv with hv;subst hv;simpa using hd)
  ·rfl
 ·rw [show decide ((a.n.a7.length:Int)<(a.n.i4.length:Int))=false by simp;omega,f0i (by omega)];exact j2 (by rw [f0i (by omega)];simp)
theorem NI.accOk{n:j8}(h:NI n):O9 n.Acc=true/\a5N n.Acc:=by
 have:=a0p.2 h;unfold D2 at this;simp only [e9R] at this;exact ⟨by simp_all,h.ok.2.1⟩
theorem b79{a:v5}(h:O9 a=true)(ho:a5N a)(b:Int):a8y a b=some (match J2 a b with|some x=>(x,true)|none=>(a,false)):=by
 unfold a8y J2 a7E;rw [c9c ho,e9M,h,b4F ho,M0];simp only [e9S,f1D,e9M];cases q8 b 1 3000
 ·rfl
 ·cases hd:decide (b<a.i5)
  ·rw [show decide (a.i5<=b)=true by simp at hd⊢;omega];rfl
  ·rw [show decide (a.i5<=b)=false by simp at hd⊢;omega];rfl
theorem e9A{a:v5}(h:O9 a=true)(ho:a5N a)(b:Int):c1O a b=some (match J2 a b with|some x=>(x,true)|none=>(a,false)):=b79 h ho b
theorem c6N(slot:Nat)(hs:slot<40):∀(m:Nat) (vs:List m6),slot+1-vs.length=m->s2 (fun s:List m6=>a7F (slot:Int) s) vs=some (.brk (U4 vs (slot+1)))
 | 0,vs,hm=>by
  rw [D7 (body:=fun s:List m6=>a7F (slot:Int) s) (b:=vs) (by unfold a7F;rw [show decide ((vs.length:Int)<=(slot:Int))=false by simp;omega];rfl)];unfold U4;rw [hm];simp
 | m+1,vs,hm=>by
  rw [F7 (body:=fun s:List m6=>a7F (slot:Int) s) (t:=vs++[v0]) (by unfold a7F;rw [show decide ((vs.length:Int)<=(slot:Int))=true by simp;omega,f1C,t6 (by omega)];rfl),c6N slot hs m _ (by simp;omega)];unfold U4;rw [e91,f0M,show slot+1-vs.length=(slot+1-(vs.length+1))+1 by omega,f1c,e92];rfl
theorem d0P{a:v5}(h:O9 a=true)(ho:a5N a)(hl:a.a0.length<=40){b s:Int}(hb:C2 b){e:m5}(he:E0 e):b1Y a b s e=some (match O8 a b s e with|some x=>(x,true)|none=>(a,false)):=by
 unfold b1Y O8;rw [e9A h ho,e9M,M0,a5Q he.f,b4F ho];cases hp:J2 a b with
 | none=>cases q8 s 0 39&&z6 e<;>rfl
 | some x=>
  obtain ⟨rfl,hb1,hb2,hb3⟩:=a92 hp;simp only [e9S,f1D,e9M];cases hs:q8 s 0 39
  ·rfl
  cases z6 e
  ·rfl
  obtain ⟨k,rfl⟩:∃k:Nat,s=(k:Int):=⟨s.toNat,by rw [H3] at hs;omega⟩
  rw [H3] at hs;have hlen:=c2t a.a0 (k+1);have hk:k<(U4 a.a0 (k+1)).length:=by rw [hlen];omega
  simp only [e9S,f1u,f1D,f1C,e9M,f0K,f0h];rw [c6N k (by omega) _ _ rfl];simp only [e9M,l8.go,c0E];rw [u6 hk,e9M,f0h,b4F (x:=⟨b,(U4 a.a0 (k+1)).set k ⟨b,e⟩⟩) ⟨hb,S9 (by rw [f0z,hlen];omega) (by
   intro v hv;rcases e99 hv with q|q
   ·rcases d3g q with q|q
    ·exact ho.2.2 v q
    ·rw [q];exact b6y
   ·rw [q];exact ⟨hb,he⟩)⟩]
  rfl
theorem a8i{a:p6}(h:a.out.length<=1000)(to:Int)(m:j9):a22 a to m=some ⟨a.n,a.out++[{m with c9:=a.n.Id,To:=to}],a.told⟩:=by
 unfold a22;rw [t6 (by omega)]
def a0h(m:j9)(a:p6)(t:Int):p6:=bif t != a.n.Id then ⟨a.n,a.out++[{m with c9:=a.n.Id,To:=t}],a.told⟩ else a
theorem d3R(m:j9)(a:p6)(t:Int):(a0h m a t).out.length<=a.out.length+1:=by
 unfold a0h;cases t != a.n.Id<;>simp
theorem a4X{a:p6}(hid:0<=a.n.Id/\a.n.Id<=2)(h:a.out.length<=900)(m:j9):a2k a m=some ⟨a.n,a.out++O3 a.n.Id m,a.told⟩:=by
 have e:∀(a:p6) (t:Int),a.out.length<=1000->0<=t->t<3->a4s m t a=some (.nxt (t+1,a0h m a t)):=by
  intro a t ho h0 h1;unfold a4s b9W a0h;rw [show decide (t<3)=true by simpa using h1,f1C,a8i ho,B8 (by omega) (by omega)];cases t != a.n.Id<;>rfl
 have l1:=d3R m a 0;have l2:=d3R m (a0h m a 0) (0+1);have h0:=F7 (body:=fun s:Int×p6=>a4s m s.1 s.2) (s:=(0,a)) (e a 0 (by omega) (by omega) (by omega));have h1:=F7 (body:=fun s:Int×p6=>a4s m s.1 s.2) (s:=(0+1,a0h m a 0)) (e (a0h m a 0) (0+1) (by omega) (by omega) (by omega));have h2:=F7 (body:=fun s:Int×p6=>a4s m s.1 s.2) (s:=(0+1+1,a0h m (a0h m a 0) (0+1))) (e (a0h m (a0h m a 0) (0+1)) (0+1+1) (by omega) (by omega) (by omega));have h3:=Y9 (body:=fun s:Int×p6=>a4s m s.1 s.2) (s:=(0+1+1+1,a0h m (a0h m (a0h m a 0) (0+1)) (0+1+1))) (show a4s m (0+1+1+1) _=_ from rfl);unfold a2k;rw [h0,h1,h2,h3];obtain ⟨n,o,t⟩:=a;simp only [e9M,l8.go];have hid':n.Id=0\/n.Id=1\/n.Id=2:=by have:=hid.1;have:=hid.2;simp only at *;omega
 rcases hid' with q|q|q<;>simp [a0h,O3,q]
theorem c76{a:p6}(h:0<=a.n.Id/\a.n.Id<=2):b0E a=some (a79 a.n.Id,a):=by
 obtain ⟨y,hy⟩:=c2f h;unfold b0E;rw [t6 (by decide),hy];rfl
theorem b9K(a:p6):b1G a=some ⟨a67 a.n,a.out,a.told⟩:=rfl
theorem b5E(a:p6)(b:Int):a9H a b=some ⟨Y8 a.n b,a.out,a.told⟩:=by
 unfold a9H Y8;rw [b9K];cases a.n.f0 != 0
 ·rfl
 ·cases decide (b>a.n.a8)<;>rfl
theorem a1f.bal0{n:j8}(h:a1f n):∀v∈n.i4,0<=v.a8:=fun v hv=>(h.best.2 v hv).bal.1
def Y3(a:p6)(x:j8×List j9):p6:=⟨x.1,a.out++x.2,a.told⟩
theorem a7J(a:p6):Y3 a (a.n,[])=a:=by
 unfold Y3;rw [f0w]
theorem b1y{a:p6}(h:NI a.n)(ho:a.out.length<=900):a6j a=some (Y3 a (S4 a.n)):=by
 unfold a6j S4;rw [show decide ((a.n.a7.length:Int)>=40)=decide (40<=a.n.a7.length) by simp;omega];cases a.n.f0 != 2
 ·simp only [f1D,f0p];cases hlt:decide (40<=a.n.a7.length)
  ·simp only [f1D,e52 h.ok h.ld.bal0,e9M];obtain ⟨q,hq,hql,hqm,hqe⟩:=b6Q a.n;cases hx:a1o a.n with
   | mk x o=>
   rw [hx] at hq hqe;have hq:x={a.n with d6:=q}:=hq;subst hq;cases o with
   | none=>
    simp only [b1U,e97,f1C,Y3];rw [f0w]
   | some e=>
    have he:=(hqe e rfl).ok h.ok;obtain ⟨c1,c2⟩:=h.accOk;simp only [b1U,e9S,f1D];rw [d0P (a:=a.n.Acc) c1 c2 h.vl h.ok.2.2.2.2.2.1 he,e9M];simp only [a97];cases hc:O8 a.n.Acc a.n.a8 (a.n.a7.length:Int) e with
    | none=>
     simp only [e97,f1C,b9K,e9M,Y3];rw [f0w]
    | some x=>
     simp only [e9S,f1D];rw [c76 (by exact h.id),e9M];simp only;rw [a4X (by exact h.id) (by exact ho)];rfl
  ·simp only [f1C];rw [a7J]
 ·simp only [f1C,f1p];rw [a7J]
def a2a(a:p6)(x:j8×List j9×List o8):p6:=⟨x.1,a.out++x.2.1,a.told++x.2.2⟩
theorem b6g(a:p6):a2a a (a.n,[],[])=a:=by
 unfold a2a;rw [f0w,f0w]
theorem e5N{a:p6}(h:NI a.n)(ho:a.out.length<=900)(ht:a.told.length<=900):b5C a=some (a2a a ((S4 (V6 a.n).1).1,(S4 (V6 a.n).1).2,(V6 a.n).2)):=by
 have hk:u5 a.n.a7:=h.ok.2.2.1.fits (by decide);obtain ⟨hl,he⟩:=a76 h.list;have j1:∀b:p6,NI b.n->b.out.length<=900->b8k b=some (Y3 b (S4 b.n)):=by
  intro b hb hbo;unfold b8k;rw [b1y hb hbo];rfl
 unfold b5C V6;rw [c2G hk,e9M];cases hb:a.n.j3
 ·simp only [f1D,e9M,l8.go];rw [j1 a h ho];simp only [Y3,a2a,f0w]
 ·cases hf:a.n.a7.findIdx? (O0 a.n.b8.a5) with
  | none=>
   simp only [f1C];rw [show decide ((-1:Int)>=0)=false from rfl];simp only [f1D,e9M,l8.go];rw [j1 a h ho];simp only [Y3,a2a,f0w]
  | some k=>
   obtain ⟨hkl,h1,h2⟩:=c1f hf;have hlen:(A2 a.n.a7).2.length=a.n.a7.length:=by
    have:=(a4N hl he a.n.a7.length (f0q _)).2.1;rwa [f0o] at this
   have hc:idx (A2 a.n.a7).2 (k:Int)=some (a0r a.n.a7 k):=by
    rw [u6 (by omega)];unfold a0r;rw [e9N (by omega)];rfl
   have hj2:∀v:Int,b8t a (a0r a.n.a7 k) v=some (.brk ⟨a5J a.n,a.out,a.told++[⟨a.n.Id,a.n.b8.a5,a0r a.n.a7 k,v⟩]⟩):=by
    intro v;unfold b8t;rw [t6 (by omega)];rfl
   have hv:a5n a.n.a7 a.n.b8.a5=a.n.a7[k].b9.d9:=by
    unfold a5n;rw [hf];simp only [e9N hkl]
   simp only [f1C];rw [show decide ((k:Int)>=0)=true by simp];simp only [f1C];rw [c9s (okEntries.f h.ok.2.2.1) hl he,e9M,hc,e9M,u6 hkl,hv];cases a0r a.n.a7 k==0
   ·simp only [f1D,e9M,l8.go,hj2];exact j1 ⟨a5J a.n,a.out,_⟩ h.freeN ho
   ·simp only [f1C,e9M,l8.go,hj2];exact j1 ⟨a5J a.n,a.out,_⟩ h.freeN ho
theorem c9R{a:p6}(h:NI a.n)(hl:a.n.a7.length<40){e:m5}(he:z6 e=true)(ho:a.out.length<=900)(ht:a.told.length<=900):b3r a e=some (a2a a (a05 a.n e)):=by
 have hk:=e5N (a:=⟨T5 a.n e,a.out,a.told⟩) (h.know he hl) ho ht;unfold b3r;rw [t6 (by omega)];unfold T5 at hk;cases hp:a.n.f0==3
 ·rw [hp] at hk;simp only [f1D,e9M,l8.go] at hk⊢;refine hk.trans ?_;unfold a05 T5;rw [hp];rfl
 ·rw [hp] at hk;simp only [f1C,e9M,l8.go] at hk⊢;refine hk.trans ?_;unfold a05 T5;rw [hp];rfl
theorem T4.two{m:j9}(h:T4 m)(hk:m.a6=2):(m.a0.length<=40/\∀v∈m.a0,VI v)/\m.g8+m.a0.length<=40:=by
 rcases h with q|q|q|q|q|q|q
 ·omega
 ·exact ⟨q.2.2.2.1,q.2.2.2.2⟩
 all_goals exact absurd q.1 (by omega)
theorem T4.five{m:j9}(h:T4 m)(hk:m.a6=5):m.g8<40/\z6 m.g9=true:=by
 rcases h with q|q|q|q|q|q|q
 ·omega
 ·omega
 ·omega
 ·exact ⟨q.2.2.1,q.2.2.2.1⟩
 all_goals exact absurd q.1 (by omega)
theorem e3V{a:p6}(h:NI a.n){m:j9}(hm:MI m)(ho:a.out.length<=900)(hto:m.To=a.n.Id):b5f a m=some (Y3 a (a4G a.n m)):=by
 obtain ⟨c1,c2⟩:=h.accOk;have hs:=hm.sl;unfold b5f a4G;rw [b79 c1 c2,e9M];cases hp:J2 a.n.Acc m.a8 with
 | none=>
  simp only [e97,f1C];rw [a8i (by omega)];simp only [e9M,Y3,Z5,hto]
 | some x=>
  obtain ⟨rfl,_⟩:=a92 hp;simp only [e9S,f1D,b5E,e9M];have hy:∀(n:j8) (vs:List m6),n.Id=a.n.Id->b5G m ⟨n,a.out,a.told⟩ vs=some ⟨n,a.out++[Z5 m ⟨2,0,0,m.a8,m.g8,zE,vs⟩],a.told⟩:=by
   intro n vs hn;unfold b5G;rw [a8i (a:=⟨n,a.out,a.told⟩) (by exact f0c ho (by decide))];simp only [e9M,Z5,hto,hn]
  have hid:(Y8 (⟨a.n.Id,⟨m.a8,a.n.Acc.a0⟩,a.n.a7,a.n.Seq,a.n.f0,a.n.a8,a.n.c9,a.n.i4,a.n.c8,a.n.a0,a.n.j3,a.n.i7,a.n.b8,a.n.d6⟩) m.a8).Id=a.n.Id:=b0N _ _;obtain ⟨k,hk⟩:∃k:Nat,m.g8=(k:Int):=⟨m.g8.toNat,by omega⟩
  cases hd:decide (m.g8<(a.n.Acc.a0.length:Int))
  ·simp only [f1D,e9M,l8.go];rw [hy _ _ hid,e94 (by simp at hd;omega)];rfl
  ·simp only [f1C];rw [t6 (by simp at hd;omega)];simp only [e9M,l8.go];rw [hy _ _ hid,b8E];rfl
theorem e03{a:p6}(h:NI a.n){m:j9}(hm:MI m)(ho:a.out.length<=900)(hto:m.To=a.n.Id):b6A a m=some (Y3 a (a3V a.n m)):=by
 obtain ⟨c1,c2⟩:=h.accOk;unfold b6A a3V;rw [d0P c1 c2 h.vl hm.ok.2.2.2.1 hm.ok.2.2.2.2.2.1,e9M];cases O8 a.n.Acc m.a8 m.g8 m.g9 with
 | none=>
  simp only [e97,f1C];rw [a8i (by omega)];simp only [e9M,Y3,Z5,hto]
 | some x=>
  simp only [e9S,f1D,b5E,e9M];rw [a8i (by simp only;omega)];simp only [e9M,Y3,Z5,hto,b0N]
theorem d0C:∀(l:List Bool) (hl:u5 l) (m k:Nat) (c:Int),k+m=l.length->0<=c->c<=k->s2 (fun s:Int×Int=>a3R l s.1 s.2) (c,(k:Int))=some (.brk (c+(((l.drop k).filter (· == true)).length:Int)))
 | l,hl,0,k,c,hk,h0,h1=>by
  have:k=l.length:=by omega
  subst this;rw [D7 (body:=fun s:Int×Int=>a3R l s.1 s.2) (b:=c) (by unfold a3R;rw [B7];rfl)];simp
 | l,hl,m+1,k,c,hk,h0,h1=>by
  have hlt:k<l.length:=by omega
  have hf:=hl;unfold u5 at hf;have hb:a3R l c (k:Int)=some (.nxt (bif l[k] then c+1 else c,((k+1:Nat):Int))):=by
   unfold a3R c0l;rw [z0 _ k hlt,f1C,u6 hlt,e9M,G0 hl hlt,B8 (by omega) (by omega)];cases l[k]<;>rfl
  rw [F7 (body:=fun s:Int×Int=>a3R l s.1 s.2) hb,d0C l hl m (k+1) _ (by omega) (by cases l[k]<;>simp<;>omega) (by cases l[k]<;>simp<;>omega),e98 hlt];cases l[k]<;>simp<;>omega
theorem c6U{l:List Bool}(h:u5 l):∃c,b28 l=some c/\decide (c>=2)=U6 l:=by
 unfold b28;rw [show s2 (fun s:Int×Int=>a3R l s.1 s.2) (0,0)=_ from d0C l h l.length 0 0 (by omega) (by omega) (by omega)];refine ⟨_,rfl,?_⟩;unfold U6;rw [Bool.eq_iff_iff];simp only [f0G,decide_eq_true_eq];omega
theorem e3O{a b:List m6}(ha:a.length<=40/\∀v∈a,VI v)(hb:b.length<=40/\∀v∈b,VI v):b7B a b=some (E6 a b):=by
 have oa:=a2Z (by omega) ha.2;have ob:=a2Z (by omega) hb.2;have hlen:=a8L a b;have hok:z9 96 G3 (E6 a b):=a2Z (by omega) fun v hv=>(b36 hv).elim (ha.2 v) (hb.2 v)
 unfold b7B;rw [b1S oa,e9M,a7G.2 ha,b1S ob,e9M,a7G.2 hb];simp only [e9S,f1D];rw [a59 (body:=fun s:(List m6)×Int=>a5j a b s.1 s.2) (E6 a b) (by unfold u5;omega) (fun l=>l) (by
  intro k hk;have hget:=b6f a b k;rw [e9N hk] at hget;have hj1:∀l:List m6,b9x (k:Int) l=some (.nxt (l,m4 ((k:Int)+1))):=fun _=>rfl
  have htl:(((E6 a b).take k).length+1)*96<=140737488355328:=by rw [f0e];omega
  show a5j a b ((E6 a b).take k) (k:Int)=_
  have hstart:a5j a b ((E6 a b).take k) (k:Int)=b6s a b ((E6 a b).take k) (k:Int):=by
   unfold a5j;by_cases h1:k<a.length
   ·rw [z0 _ k h1];rfl
   ·rw [show decide ((k:Int)<(a.length:Int))=false by simp;omega,z0 _ k (by omega)];rfl
  rw [hstart];unfold b6s;by_cases h1:k<a.length
  ·rw [show decide ((k:Int)>=(a.length:Int))=false by simp;omega,u6 h1];rw [e9N h1] at hget;by_cases h2:k<b.length
   ·rw [show decide ((k:Int)>=(b.length:Int))=false by simp;omega,u6 h2];rw [e9N h2] at hget;injection hget with hget;simp only [f1D,e9M,t6 htl];rw [hget,show decide (a[k].a8>=b[k].a8) = !decide (b[k].a8>a[k].a8) by rw [Bool.eq_iff_iff];simp];cases decide (b[k].a8>a[k].a8)<;>rfl
   ·rw [show decide ((k:Int)>=(b.length:Int))=true by simp;omega];rw [f0i (by omega)] at hget;injection hget with hget;simp only [f1D,f1C,e9M,t6 htl];rw [hget];rfl
  ·have h2:k<b.length:=by omega
   rw [show decide ((k:Int)>=(a.length:Int))=true by simp;omega,u6 h2];rw [f0i (by omega),e9N h2] at hget;injection hget with hget;simp only [f1C,e9M,t6 htl];rw [hget];rfl) (by
  show a5j a b (E6 a b) ((E6 a b).length:Int)=_
  unfold a5j;rw [show decide (((E6 a b).length:Int)<(a.length:Int))=false by simp;omega,show decide (((E6 a b).length:Int)<(b.length:Int))=false by simp;omega];rfl)]
 simp only [e9M,l8.go,b9L,b4U hok]
theorem e3l{a:p6}(h:NI a.n){m:j9}(hm:MI m)(hk:m.a6=2)(ho:a.out.length<=900):b44 a m=some (Y3 a (a4A a.n m)):=by
 have hkd:=hm.kd.two hk;have hs:=hm.sl;have hf:=hm.fr;have hright:=c3V h hm hk;unfold b44;unfold a4A at hright⊢;by_cases p1:a.n.f0=1
 ·rw [show (a.n.f0 != 1)=false by simp [p1],f0p] at hright;rw [show (a.n.f0 != 1)=false by simp [p1],f0p];cases hb:m.a8 != a.n.a8
  ·rw [hb] at hright;simp only [f1D] at hright⊢;have hl:a.n.c9.length=3/\Own a.n:=by
    rcases h.ld with q|q|q|q
    ·omega
    ·exact ⟨q.2.2.1,q.2.1⟩
    all_goals exact absurd q.1 (by omega)
   obtain ⟨f,hff⟩:∃f:Nat,m.c9=(f:Int):=⟨m.c9.toNat,by omega⟩
   have hvo:(e9O m.g8.toNat v0++m.a0).length<=40/\∀v∈e9O m.g8.toNat v0++m.a0,VI v:=⟨by simp;omega,fun v hv=>(e9P.1 hv).elim (fun q=>by rw [(f0r.1 q).2];exact .inl rfl) (hkd.1.2 v)⟩
   obtain ⟨c,c1,c2⟩:=c6U (l:=a.n.c9.set (f:Int).toNat true) (b7D (by simp;omega));rw [hff] at hright;rw [hff,u6 (show f<a.n.c9.length by omega),e9M,t6 (by omega),t6 (by simp;omega),show (⟨0,⟨false,⟨0,0⟩,⟨[],[],0,0⟩⟩⟩:m6)=v0 from rfl,e3O ⟨hl.2.bl,hl.2.bs⟩ hvo,e9M,c1,e9M,c2];cases htw:U6 (a.n.c9.set (f:Int).toNat true)
   ·simp only [f1D,Y3];rw [f0w]
   ·rw [htw] at hright;simp only [f1C] at hright⊢;have hni:NI ⟨a.n.Id,a.n.Acc,a.n.a7,a.n.Seq,2,a.n.a8,[],E6 a.n.i4 (e9O m.g8.toNat v0++m.a0),a.n.c8,a.n.a0,a.n.j3,a.n.i7,a.n.b8,a.n.d6⟩:=by
     rcases h.ld with q|q|q|q
     ·omega
     ·exact ⟨h.id,h.pr,h.vl,h.vs,h.kl,h.ks,h.sq,h.ql,h.qs,.inr (.inr (.inl ⟨rfl,⟨q.2.1.b1,q.2.1.b2,q.2.1.mod,q.2.1.pr,by have:=a8L a.n.i4 (e9O m.g8.toNat v0++m.a0);have:=hl.2.bl;have:=hvo.1;simp only at *;omega,fun v hv=>(b36 hv).elim (hl.2.bs v) (hvo.2 v)⟩,rfl,q.2.2.2.2.1,q.2.2.2.2.2⟩)),h.wt⟩
     all_goals exact absurd q.1 (by omega)
    rw [b1y (a:=⟨⟨a.n.Id,a.n.Acc,a.n.a7,a.n.Seq,2,a.n.a8,[],E6 a.n.i4 (e9O m.g8.toNat v0++m.a0),a.n.c8,a.n.a0,a.n.j3,a.n.i7,a.n.b8,a.n.d6⟩,a.out,a.told⟩) hni ho];rfl
  ·simp only [f1C,f1D];rw [a7J]
 ·rw [show (a.n.f0 != 1)=true by simpa using p1];simp only [f1C,f1p];rw [a7J]
theorem e5w{a:p6}(h:NI a.n){m:j9}(hm:MI m)(ho:a.out.length<=800)(ht:a.told.length<=800):b6l a m=some (a2a a (a6n a.n m)):=by
 have hf:=hm.fr;unfold b6l a6n;by_cases p3:a.n.f0=3
 ·rw [show (a.n.f0 != 3)=false by simp [p3],f0p];cases hb:m.a8 != a.n.a8
  ·simp only [f1D,f0p];cases hs:m.g8 != (a.n.a7.length:Int)
   ·simp only [f1D];have hsl:m.g8=(a.n.a7.length:Int):=by simpa using hs
    obtain ⟨q1,q2,q3,q4,q5,q6,q7⟩:a.n.f0=3/\Own a.n/\a.n.c9=[]/\z6 a.n.c8=true/\a.n.a0.length=3/\a.n.a0[a.n.Id.toNat]?=some true/\a.n.a7.length<40:=by
     rcases h.ld with q|q|q|q
     ·omega
     ·omega
     ·omega
     ·exact q
    obtain ⟨f,hff⟩:∃f:Nat,m.c9=(f:Int):=⟨m.c9.toNat,by omega⟩
    obtain ⟨c,c1,c2⟩:=c6U (l:=a.n.a0.set (f:Int).toNat true) (b7D (by simp;omega));rw [hff,u6 (show f<a.n.a0.length by omega),e9M,c1,e9M,c2];cases htw:U6 (a.n.a0.set (f:Int).toNat true)
    ·simp only [f1D,a2a,f0w]
    ·simp only [f1C];have hid:=h.id;have hni:NI ⟨a.n.Id,a.n.Acc,a.n.a7,a.n.Seq,a.n.f0,a.n.a8,a.n.c9,a.n.i4,a.n.c8,a.n.a0.set (f:Int).toNat true,a.n.j3,a.n.i7,a.n.b8,a.n.d6⟩:=
      ⟨h.id,h.pr,h.vl,h.vs,h.kl,h.ks,h.sq,h.ql,h.qs,.inr (.inr (.inr ⟨q1,q2,q3,q4,by simpa using q5,by
       show (a.n.a0.set f true)[a.n.Id.toNat]?=some true
       rw [List.getElem?_set];split
       ·rw [if_pos (by omega)]
       ·exact q6,q7⟩)),h.wt⟩
     have l1:=a0k a.n.Id ⟨5,0,0,0,m.g8,a.n.c8,[]⟩;rw [a4X (by exact hid) (by simp only;omega),e9M];simp only;rw [c9R (a:=⟨⟨a.n.Id,a.n.Acc,a.n.a7,a.n.Seq,a.n.f0,a.n.a8,a.n.c9,a.n.i4,a.n.c8,a.n.a0.set (f:Int).toNat true,a.n.j3,a.n.i7,a.n.b8,a.n.d6⟩,a.out++O3 a.n.Id ⟨5,0,0,0,m.g8,a.n.c8,[]⟩,a.told⟩) hni q7 q4 (by simp only [e91];omega) (by simp only;omega),e9M,hsl];simp only [a2a,e92]
   ·simp only [f1C];rw [b6g]
  ·simp only [f1C,f1D,f1p];rw [b6g]
 ·rw [show (a.n.f0 != 3)=true by simpa using p3];simp only [f1C,f1p];rw [b6g]
theorem e3e{a:p6}(h:NI a.n){m:j9}(hm:MI m)(hk:m.a6=5)(ho:a.out.length<=800)(ht:a.told.length<=800)(hto:m.To=a.n.Id):b5W a m=some (a2a a (a50 a.n m)):=by
 have hkd:=hm.kd.five hk;unfold b5W a50;cases h1:decide (m.g8<(a.n.a7.length:Int))
 ·cases h2:decide (m.g8>(a.n.a7.length:Int))
  ·simp only [f1D];have hl:a.n.a7.length<40:=by simp at h1 h2;omega
   rw [c9R h hl hkd.2 (by omega) (by omega)];rfl
  ·simp only [f1D,f1C];rw [a8i (by omega)];simp only [e9M,a2a,Z5,hto,f0w]
 ·simp only [f1C];rw [b6g]
theorem d9V{a:p6}(h:NI a.n){m:j9}(hm:MI m)(hk:m.a6=7)(ho:a.out.length<=800):b42 a m=some (Y3 a (a4h a.n m)):=by
 have hql:=h.ql;obtain ⟨e1,e2⟩:z6 m.g9=true/\m.g9.i8=false:=by
  rcases hm.kd with q|q|q|q|q|q|q
  ·omega
  ·omega
  ·omega
  ·omega
  ·omega
  ·exact ⟨q.2.2.2.1,q.2.2.2.2.1⟩
  ·omega
 unfold b42 a4h;rw [show decide ((a.n.d6.length:Int)>=4)=decide (4<=a.n.d6.length) by simp;omega,e2L (h.ok.2.2.1.fits (by decide))];cases a.n.f0==0
 ·simp only [f1D,f0p];cases h4:decide (4<=a.n.d6.length)
  ·simp only [f1D,f0p,e9M];cases M5 a.n.a7 m.g9.a5
   ·simp only [f1D];have hni:NI {a.n with d6:=a.n.d6++[m.g9]}:=h.queue (by simp at h4⊢;omega) (by
     intro e he;rcases e9P.1 he with q|q
     ·exact h.qs e q
     ·rw [e9Z.1 q];exact ⟨e1,e2⟩)
    rw [t6 (by omega),b1y (a:=⟨{a.n with d6:=a.n.d6++[m.g9]},a.out,a.told⟩) hni (by simp only;omega)];rfl
   ·simp only [f1C];rw [a7J]
  ·simp only [f1C,f1p];rw [a7J]
 ·simp only [f1C,f1p];rw [a7J]
theorem b5k{n:j8}(h:NI n):a8l n=some ⟨n,[],[]⟩:=by
 unfold a8l;rw [b7r h.ok];rfl
theorem d55{l:List j9}(hl:l.length<=1000)(h:∀m∈l,MI m):z9 152 F9 l:=S9 (by omega) fun m hm=>(h m hm).ok
theorem c3n{a:p6}(h:NI a.n)(ho:a.out.length<=1000)(hm:∀m∈a.out,MI m)(ht:a.told.length<=1000):a1j a=some (a.n,a.out,a.told,a):=by
 unfold a1j;rw [b7r h.ok,e9M,d0l (d55 ho hm),e9M,c4d (by omega)];rfl
theorem c2v{n:j8}{x:j8×List j9}(h:R3 n x)(hl:x.2.length<=1000):a1j ⟨x.1,x.2,[]⟩=some (x.1,x.2,[],⟨x.1,x.2,[]⟩):=c3n h.ni hl h.ms (by simp)
theorem c1W(l:List q9)(prog:List r9):∀(f k:Nat) (regs:List Int) (rs:List s1) (ps:List p9),(a0J l prog f k regs rs ps).Code≠3
 | 0,_,_,_,_=>by simp [a0J]
 | f+1,k,regs,rs,ps=>by
  unfold a0J;cases prog[k]? with
  | none=>simp
  | some i=>
   simp only;cases i.a6==6
   ·cases i.a6==7
    ·cases (G2 l i regs rs ps).1.all G9
     ·simp
     ·exact c1W l prog f _ _ _ _
    ·simp
   ·exact c1W l prog f _ _ _ _
theorem e1L{l:List q9}(hb:F6 l=true)(p:List r9):((C5 l p).Code==3) = !D6 p:=by
 unfold C5;rw [hb,e95];cases D6 p
 ·rfl
 ·simpa using c1W l p _ _ _ _ _
theorem d5f{n:j8}(h:NI n):b6C n=some (A2 n.a7).1:=by
 unfold b6C;rw [a8j h.ok,e9M,a0p.2 h];simp only [e9S,f1D];rw [e9x (okEntries.f h.ok.2.2.1),h.list];rfl
theorem c46{prog:List r9}(h:z9 32 okT prog):u5 prog:=h.fits (by decide)
theorem e2Z{n:j8}(h:NI n){prog:List r9}(hp:z9 32 okT prog):b6O n prog=some ((N9 n prog).1,(N9 n prog).2,[]):=by
 have hf:=c46 hp;have hs:=h.sq;have hr:=b3p h hf;have hlen:=b9P n prog;have e0:=c3n (a:=⟨n,[],[]⟩) h (by simp) (by simp) (by simp);rw [a3H] at hr hlen;unfold b6O;rw [a8j h.ok,e9M,a0p.2 h,b5k h,a3H,b38 hf,d5f h];simp only [e9S,f1D,e9M];have hc:((C5 (a1B n) prog).Code==3) = !D6 prog:=e1L (b7v h) prog;rw [show (A2 n.a7).1.i0=a1B n from rfl,d9c (a9E (b7v h)) hf];unfold M3 at hr hlen⊢;rw [hc] at hr hlen⊢;cases hb:n.j3
 ·cases hq:n.Seq==1000
  ·cases hpo:D6 prog
   ·simp only [e97,f1C,f1D,e0,e9M];rfl
   ·rw [hb,hq,hpo] at hr hlen;have hca:M3 n prog=true:=by unfold M3;rw [hc,hb,hq,hpo];rfl
    have hn:=h.asked hf hca;simp only [e9S,e97,Bool.or_false,f1C,f1D,e9M] at hr hlen⊢;rw [B8 (by omega) (by omega)];have ha:(⟨⟨n.Id,n.Acc,n.a7,n.Seq+1,n.f0,n.a8,n.c9,n.i4,n.c8,n.a0,true,prog,⟨false,⟨n.Id,n.Seq+1⟩,C5 (a1B n) prog⟩,n.d6⟩,[],[]⟩:p6)=⟨U9 n prog,[],[]⟩:=rfl;have hj:∀x:j8×List j9,R3 n x->x.2.length<=3->b3W ⟨x.1,x.2,[]⟩=some (x.1,x.2,[]):=by
     intro x hx hl;unfold b3W;rw [c2v hx (by omega)];rfl
    rw [ha];cases h2:n.f0==2
    ·rw [h2] at hr hlen;cases h0:n.f0==0
     ·rw [h0] at hr hlen;simp only [f1D,e9M,l8.go] at hr hlen⊢;exact hj _ hr hlen
     ·rw [h0] at hr hlen;simp only [f1D,f1C] at hr hlen⊢;rw [a4X (a:=⟨U9 n prog,[],[]⟩) (by exact h.id) (by simp)];simp only [e9M,l8.go,f0H];exact hj (U9 n prog,_) hr hlen
    ·rw [h2] at hr hlen;simp only [f1C] at hr hlen⊢;rw [b1y (a:=⟨U9 n prog,[],[]⟩) hn (by simp)];simp only [e9M,l8.go,Y3,f0H];exact hj _ hr hlen
  ·simp only [f1C,f1D,e0,e9M];rfl
 ·simp only [f1C,e0,e9M];rfl
theorem e2Y{b who:Int}(hb:0<=b/\b<=3000)(hw:0<=who/\who<=2):b7F b who=some (N5 b who):=by
 have e:∀i:Int,1<=i->i<=4->a1U who (b+i)=some (bif decide (b+i<=3000) then (bif e9U (b+i) 3==who then .ret (b+i) else .nxt (b+(i+1))) else .brk ()):=by
  intro i h1 h3;unfold a1U;rw [show decide (b+i>0)=true by simp;omega,c7Y,B8 (by omega) (by omega),Int.add_assoc];cases hd:decide (b+i<=3000)
  ·rfl
  ·rw [show X8 (b+i)=e9U (b+i) 3 by
    unfold X8;rw [H3.2 ⟨by omega,by simpa using hd⟩];rfl]
   simp only [f1C,e9M];cases e9U (b+i) 3==who<;>rfl
 have hmod:∀i:Int,1<=i->e9U (b+i) 3=(b+i) % 3:=fun i hi=>Int.tmod_eq_emod_of_nonneg (by omega)
 have e1:=e 1 (by omega) (by omega);have e2:=e 2 (by omega) (by omega);have e3:=e 3 (by omega) (by omega);have m1:=hmod 1 (by omega);have m2:=hmod 2 (by omega);have m3:=hmod 3 (by omega);unfold b7F N5;rw [show decide (b<0)=false by simp;omega,M0,show q8 who 0 2=true from H3.2 hw,B8 (by omega) (by omega)];simp only [f1D,e9M,e9S];cases q1:decide (b+1<=3000)
 ·rw [q1] at e1;rw [D7 (body:=fun s:Int=>a1U who s) e1,show decide (b+2<=3000)=false by simp at q1⊢;omega,show decide (b+3<=3000)=false by simp at q1⊢;omega];rfl
 rw [q1] at e1;cases t1:e9U (b+1) 3==who;case true=>rw [t1] at e1;rw [Y9 (body:=fun s:Int=>a1U who s) e1];rfl
 rw [t1] at e1;rw [F7 (body:=fun s:Int=>a1U who s) e1];cases q2:decide (b+2<=3000)
 ·rw [show (1:Int)+1=2 from rfl];rw [q2] at e2;rw [D7 (body:=fun s:Int=>a1U who s) e2,show decide (b+3<=3000)=false by simp at q2⊢;omega];rfl
 rw [q2] at e2;rw [show (1:Int)+1=2 from rfl];cases t2:e9U (b+2) 3==who;case true=>rw [t2] at e2;rw [Y9 (body:=fun s:Int=>a1U who s) e2];rfl
 rw [t2] at e2;rw [F7 (body:=fun s:Int=>a1U who s) e2,show (2:Int)+1=3 from rfl];cases q3:decide (b+3<=3000)
 ·rw [q3] at e3;rw [D7 (body:=fun s:Int=>a1U who s) e3];rfl
 rw [q3] at e3;have t3:(e9U (b+3) 3==who)=true:=by
  simp only [beq_eq_false_iff_ne,beq_iff_eq] at t1 t2⊢;omega
 rw [t3] at e3;rw [Y9 (body:=fun s:Int=>a1U who s) e3,t3];rfl
theorem d7e{n:j8}(h:NI n):b60 n=some (a1W n):=by
 have hr:=b0U h;have hl:=b8T n;have hj:∀x:j8×List j9,R3 n x->x.2.length<=3->b11 ⟨x.1,x.2,[]⟩=some x:=by
  intro x hx hl;unfold b11;rw [c2v hx (by omega)];rfl
 unfold b60;unfold a1W at hr hl⊢;rw [a8j h.ok,e9M,a0p.2 h,b5k h,e2Y h.pr h.id];simp only [e9S,f1D,e9M];cases hd:decide (N5 n.Acc.i5 n.Id<0)
 ·rw [hd] at hr hl;simp only [decide_eq_false_iff_not] at hd;obtain ⟨c1,c2⟩:=h.accOk;rcases c2E h.pr h.id with q|⟨q1,q2,q3,q4⟩
  ·omega
  ·have hpr:=h.pr;rw [show decide (N5 n.Acc.i5 n.Id>=0)=true by simp;omega];simp only [f1C,f1D,b9K,e9M] at hr hl⊢;rw [b79 (a:=(a67 n).Acc) c1 c2,show J2 (a67 n).Acc (N5 n.Acc.i5 n.Id)=some ⟨N5 n.Acc.i5 n.Id,n.Acc.a0⟩ from b4u (a:=n.Acc) (by omega) q3 (by omega),e9M,c76 (by exact h.id),e9M];simp only;have ha:=a4X (a:=⟨⟨n.Id,⟨N5 n.Acc.i5 n.Id,n.Acc.a0⟩,n.a7,n.Seq,1,N5 n.Acc.i5 n.Id,a79 n.Id,n.Acc.a0,zE,[],n.j3,n.i7,n.b8,n.d6⟩,[],[]⟩) h.id (by simp) ⟨1,0,0,N5 n.Acc.i5 n.Id,(n.a7.length:Int),zE,[]⟩;refine (congrArg (fun x:Option p6=>((x.bind fun all=>some (l8.brk all)).bind fun x:l8 (j8×List j9) p6=>x.go some fun j=>b11 j)) ha).trans ?_;simp only [e9M,l8.go,f0H];have e:=hj _ hr hl;exact e
 ·rw [hd] at hr hl;rw [show decide (N5 n.Acc.i5 n.Id>=0)=false by simp at hd⊢;omega];simp only [f1D,f1C,e9M,l8.go] at hr hl⊢;exact hj (n,[]) hr hl
theorem e6R{n:j8}(h:NI n):b3Q n=some ((a0Z n).1,(a0Z n).2,[]):=by
 have hr:=b8i h;have hl:=c09 n;have hj:∀x:j8×List j9,R3 n x->x.2.length<=6->b31 ⟨x.1,x.2,[]⟩=some (x.1,x.2,[]):=by
  intro x hx hl;unfold b31;rw [c2v hx (by omega)];rfl
 have l0:=a0k n.Id ⟨8,0,0,0,(n.a7.length:Int),zE,[]⟩;unfold b3Q;unfold a0Z at hr hl⊢;rw [a8j h.ok,e9M,a0p.2 h,b5k h];simp only [e9S,f1D,e9M];rw [a4X (a:=⟨n,[],[]⟩) (by exact h.id) (by simp)];simp only [e9M,f0H];have l1:(O3 n.Id ⟨8,0,0,0,(n.a7.length:Int),⟨false,⟨0,0⟩,⟨[],[],0,0⟩⟩,[]⟩).length<=3:=l0;cases h1:n.f0==1
 ·cases h2:n.f0==2
  ·cases h3:n.f0==3
   ·cases hbz:n.j3
    ·rw [h1,h2,h3,hbz] at hr hl;simp only [f1D,e9M,l8.go] at hr hl⊢;have e:=hj _ hr hl;exact e
    ·rw [h1,h2,h3,hbz] at hr hl;simp only [f1D,f1C] at hr hl⊢;rw [a4X (by exact h.id) (by simp only;omega)];simp only [e9M,l8.go];have e:=hj _ hr hl;exact e
   ·rw [h1,h2,h3] at hr hl;simp only [f1D,f1C] at hr hl⊢;rw [a4X (by exact h.id) (by simp only;omega)];simp only [e9M,l8.go];have e:=hj _ hr hl;exact e
  ·rw [h1,h2] at hr hl;simp only [f1D,f1C] at hr hl⊢;rw [b1y (by exact h) (by simp only;omega)];simp only [e9M,l8.go];have e:=hj _ hr hl;exact e
 ·rw [h1] at hr hl;simp only [f1C] at hr hl⊢;rw [a4X (by exact h.id) (by simp only;omega)];simp only [e9M,l8.go];have e:=hj _ hr hl;exact e
theorem e7g{n:j8}(h:NI n):b45 n=some (a4d n):=by
 unfold b45;rw [a8j h.ok,e9M,a0p.2 h];simp only [e9S,f1D];rw [show (⟨n.Id,n.Acc,n.a7,n.Seq,0,0,[],[],⟨false,⟨0,0⟩,⟨[],[],0,0⟩⟩,[],false,[],⟨false,⟨0,0⟩,⟨[],[],0,0⟩⟩,[]⟩:j8)=a4d n from rfl,b7r h.fall.ok];rfl
theorem d01{n:j8}(h:NI n){m:j9}(hto:m.To=n.Id):∀(d k:Nat) (o:List j9),n.a7.length-k=d->o.length<=k->s2 (fun s:Int×p6=>a41 m s.1 s.2) ((k:Int),⟨n,o,[]⟩)=some (.brk ⟨n,o++((e9Y d).map fun j=>a1F n m (k+j)).flatten,[]⟩)
 | 0,k,o,hd,ho=>by
  have hkl:=h.kl;refine (D7 (body:=fun s:Int×p6=>a41 m s.1 s.2) (b:=⟨n,o,[]⟩) ?_).trans (by simp);unfold a41;rw [show decide ((k:Int)<(n.a7.length:Int))=false by simp;omega];rfl
 | d+1,k,o,hd,ho=>by
  have hkl:=h.kl;have hlt:k<n.a7.length:=by omega
  have hb:a41 m (k:Int) ⟨n,o,[]⟩=some (.nxt (((k+1:Nat):Int),⟨n,o++a1F n m k,[]⟩)):=by
   unfold a41;rw [z0 _ k hlt,f1C];simp only;rw [u6 hlt,e9M,a8i (by simp only;omega),b8l m hlt,G0 (h.ok.2.2.1.fits (by decide)) hlt];simp only [e9M,Z5,hto]
  rw [F7 (body:=fun s:Int×p6=>a41 m s.1 s.2) (s:=((k:Int),⟨n,o,[]⟩)) hb,d01 h hto d (k+1) _ (by omega) (by rw [b8l m hlt];simp;omega)];rw [List.range_succ_eq_map,f0j,f0d,e92,f1m];simp only [f01,Function.comp_def,Nat.succ_eq_add_one,Nat.add_assoc,Nat.add_comm 1]
theorem e1e{n:j8}(h:NI n){m:j9}(hm:MI m)(hto:m.To=n.Id):b4N n m=some (a1K n m):=by
 have hr:=b1w h hm;have hl:=c2Z h m;have hj:∀x:j8×List j9×List o8,a5s n x->x.2.1.length<=60->x.2.2.length<=1->b5j ⟨x.1,x.2.1,x.2.2⟩=some x:=by
  intro x hx h1 h2;unfold b5j;rw [c3n hx.ni (by simp only;omega) hx.ms (by simp only;omega)];rfl
 have hz:NI (⟨n,[],[]⟩:p6).n:=h;unfold b4N;unfold a1K at hr hl⊢;rw [a8j h.ok,e9M,a0p.2 h,b5k h,d1i hm.ok,c0o.2 hm,show (m.To != n.Id)=false by simpa using hto];simp only [e9S,f1D,e9M];by_cases k1:m.a6=1
 ·rw [show (m.a6==1)=true by simpa using k1] at hr hl⊢;simp only [f1C] at hr hl⊢;rw [e3V (a:=⟨n,[],[]⟩) h hm (by simp) hto];have e:=hj _ hr hl.1 hl.2;exact e
 rw [show (m.a6==1)=false by simpa using k1] at hr hl⊢;by_cases k2:m.a6=2
 ·rw [show (m.a6==2)=true by simpa using k2] at hr hl⊢;simp only [f1C,f1D] at hr hl⊢;rw [e3l (a:=⟨n,[],[]⟩) h hm k2 (by simp)];have e:=hj _ hr hl.1 hl.2;exact e
 rw [show (m.a6==2)=false by simpa using k2] at hr hl⊢;by_cases k3:m.a6=3
 ·rw [show (m.a6==3)=true by simpa using k3] at hr hl⊢;simp only [f1C,f1D] at hr hl⊢;rw [e03 (a:=⟨n,[],[]⟩) h hm (by simp) hto];have e:=hj _ hr hl.1 hl.2;exact e
 rw [show (m.a6==3)=false by simpa using k3] at hr hl⊢;by_cases k4:m.a6=4
 ·rw [show (m.a6==4)=true by simpa using k4] at hr hl⊢;simp only [f1C,f1D] at hr hl⊢;rw [e5w (a:=⟨n,[],[]⟩) h hm (by simp) (by simp)];have e:=hj _ hr hl.1 hl.2;exact e
 rw [show (m.a6==4)=false by simpa using k4] at hr hl⊢;by_cases k5:m.a6=5
 ·rw [show (m.a6==5)=true by simpa using k5] at hr hl⊢;simp only [f1C,f1D] at hr hl⊢;rw [e3e (a:=⟨n,[],[]⟩) h hm k5 (by simp) (by simp) hto];have e:=hj _ hr hl.1 hl.2;exact e
 rw [show (m.a6==5)=false by simpa using k5] at hr hl⊢;by_cases k6:m.a6=6
 ·rw [show (m.a6==6)=true by simpa using k6] at hr hl⊢;obtain ⟨c1,c2⟩:=h.accOk;simp only [f1C,f1D] at hr hl⊢;rw [b79 c1 c2];cases hp:J2 n.Acc m.a8
  ·rw [hp] at hr;simp only [e9M,b5E,l8.go];have e:=hj _ hr hl.1 hl.2;exact e
  ·rw [hp] at hr;simp only [e9M,b5E,l8.go];have e:=hj _ hr hl.1 hl.2;exact e
 rw [show (m.a6==6)=false by simpa using k6] at hr hl⊢;by_cases k7:m.a6=7
 ·rw [show (m.a6==7)=true by simpa using k7] at hr hl⊢;simp only [f1C,f1D] at hr hl⊢;rw [d9V (a:=⟨n,[],[]⟩) h hm k7 (by simp)];have e:=hj _ hr hl.1 hl.2;exact e
 rw [show (m.a6==7)=false by simpa using k7] at hr hl⊢;cases k8:m.a6==8
 ·rw [k8] at hr hl;simp only [f1D,e9M,l8.go] at hr hl⊢;have e:=hj _ hr hl.1 hl.2;exact e
 ·rw [k8] at hr hl;have hs:=hm.sl;obtain ⟨k,hk⟩:∃k:Nat,m.g8=(k:Int):=⟨m.g8.toNat,by omega⟩
  simp only [f1D,f1C] at hr hl⊢;unfold a54 at hr hl⊢;rw [hk] at hr hl⊢;rw [f0h] at hr hl⊢;rw [d01 h hto (n.a7.length-k) k [] rfl (by simp)];have e:=hj _ hr hl.1 hl.2;exact e
theorem c2q{l:List j9}(hl:u5 l):∀(d k:Nat) (net:List j9),net.length<=40->l.length-k=d->s2 (fun s:(List j9)×Int=>a28 l s.1 s.2) (net,(k:Int))=some (.brk (net++(l.drop k).take (40-net.length)))
 | 0,k,net,hn,hd=>by
  refine (D7 (body:=fun s:(List j9)×Int=>a28 l s.1 s.2) (b:=net) ?_).trans (by rw [e94 (by omega)];simp);unfold a28;rw [show decide ((k:Int)<(l.length:Int))=false by simp;omega];rfl
 | d+1,k,net,hn,hd=>by
  have hlt:k<l.length:=by omega
  rw [e98 hlt];by_cases h40:net.length<40
  ·rw [F7 (body:=fun s:(List j9)×Int=>a28 l s.1 s.2) (t:=(net++[l[k]],((k+1:Nat):Int))) (by
    unfold a28 b6d;rw [z0 _ k hlt,f1C,u6 hlt,e9M,show decide ((net.length:Int)<40)=true by simp;omega,f1C,t6 (by simp only;omega),G0 hl hlt];rfl),c2q hl d (k+1) _ (by simp;omega) (by omega),e91,f0M,show 40-net.length=(40-(net.length+1))+1 by omega,f1b,e92]
   rfl
  ·rw [F7 (body:=fun s:(List j9)×Int=>a28 l s.1 s.2) (t:=(net,((k+1:Nat):Int))) (by
    unfold a28 b6d;rw [z0 _ k hlt,f1C,u6 hlt,e9M,show decide ((net.length:Int)<40)=false by simp;omega,f1D,G0 hl hlt];rfl),c2q hl d (k+1) _ hn (by omega),show 40-net.length=0 by omega,f0t,f0t]
theorem c3l{l:List o8}(hl:u5 l):∀(d k:Nat) (net:List o8),net.length<=60->l.length-k=d->s2 (fun s:(List o8)×Int=>a3f l s.1 s.2) (net,(k:Int))=some (.brk (net++(l.drop k).take (60-net.length)))
 | 0,k,net,hn,hd=>by
  refine (D7 (body:=fun s:(List o8)×Int=>a3f l s.1 s.2) (b:=net) ?_).trans (by rw [e94 (by omega)];simp);unfold a3f;rw [show decide ((k:Int)<(l.length:Int))=false by simp;omega];rfl
 | d+1,k,net,hn,hd=>by
  have hlt:k<l.length:=by omega
  rw [e98 hlt];by_cases h40:net.length<60
  ·rw [F7 (body:=fun s:(List o8)×Int=>a3f l s.1 s.2) (t:=(net++[l[k]],((k+1:Nat):Int))) (by
    unfold a3f b6N;rw [z0 _ k hlt,f1C,u6 hlt,e9M,show decide ((net.length:Int)<60)=true by simp;omega,f1C,t6 (by simp only;omega),G0 hl hlt];rfl),c3l hl d (k+1) _ (by simp;omega) (by omega),e91,f0M,show 60-net.length=(60-(net.length+1))+1 by omega,f1b,e92]
   rfl
  ·rw [F7 (body:=fun s:(List o8)×Int=>a3f l s.1 s.2) (t:=(net,((k+1:Nat):Int))) (by
    unfold a3f b6N;rw [z0 _ k hlt,f1C,u6 hlt,e9M,show decide ((net.length:Int)<60)=false by simp;omega,f1D,G0 hl hlt];rfl),c3l hl d (k+1) _ hn (by omega),show 60-net.length=0 by omega,f0t,f0t]
theorem b0i{w:m8}(hn:w.b7.length=3)(e3c:w.d8.length<=40)(htl:w.Told.length<=60){n:j8}(hid:0<=n.Id/\n.Id<=2){l:List j9}(hl:l.length<=100){t:List o8}(ht:t.length<=100):a3M w n l t=some (a7M (a1m (a0b w n.Id n) l) t):=by
 obtain ⟨k,hk⟩:∃k:Nat,n.Id=(k:Int):=⟨n.Id.toNat,by omega⟩
 unfold a3M;rw [hk,u6 (show k<w.b7.length by omega),e9M];rw [show s2 (fun s:(List j9)×Int=>a28 l s.1 s.2) (w.d8,0)=_ from c2q (by unfold u5;omega) l.length 0 w.d8 e3c (by omega)];simp only [e9M,l8.go,c0O];rw [show s2 (fun s:(List o8)×Int=>a3f t s.1 s.2) (w.Told,0)=_ from c3l (by unfold u5;omega) t.length 0 w.Told htl (by omega)];simp only [e9M,l8.go,b9N,f0G,hk];rfl
theorem d8a{l:List j9}{k:Nat}(hk:k<l.length)(hl:l.length<=100):b2v l (k:Int)=some (l.take k++l.drop (k+1)):=by
 unfold b2v;rw [B8 (by omega) (by omega)];have e1:((k:Int)+1).toNat=k+1:=by omega
 have l1:((l.drop 0).take ((k:Int).toNat-0)).length<=100:=by simp;omega
 have l2:((l.drop (k+1)).take (l.length-(k+1))).length<=100:=by simp;omega
 rw [t6 (by omega),t6 (by simp only [f1w];omega),t6 (by omega),e1,t6 (by simp only [e91,f1w];omega)];rw [b8E];simp
theorem e6W(n:j8)(p:List r9):(M3 n p=true/\(N9 n p).1.Seq=n.Seq+1/\(N9 n p).1.b8.a5=⟨n.Id,n.Seq+1⟩)\/(M3 n p=false/\N9 n p=(n,[])):=by
 cases hc:M3 n p
 ·right
  rw [a3H,hc];exact ⟨rfl,rfl⟩
 ·left
  refine ⟨rfl,?_,?_⟩
  ·rw [a3H,hc];simp only [f1C];cases n.f0==2
   ·rfl
   ·exact (c3w (U9 n p)).seq
  ·rw [c2N hc];rfl
def onN(w:m8)(e:w9):m8:=
 bif e.a6==1 then a6m w e.A e.i7 else
 bif e.a6==5 then a1m (a0b w e.A (a1W (Q0 w e.A)).1) (a1W (Q0 w e.A)).2 else
 bif e.a6==6 then a1m (a0b w e.A (a0Z (Q0 w e.A)).1) (a0Z (Q0 w e.A)).2 else
 bif e.a6==7 then a0b w e.A (a4d (Q0 w e.A)) else w
theorem b9n(w:m8)(e:w9):M4 w e=bif e.a6==2||(e.a6==3||e.a6==4) then a2K w e else bif q8 e.A 0 2 then onN w e else w:=by
 unfold M4 onN;cases e.a6==2||(e.a6==3||e.a6==4)
 ·cases q8 e.A 0 2<;>rfl
 ·rfl
theorem e5L{w:m8}(h:WI w){e:w9}(he:M1 e)(hi:q8 e.A 0 2=true):a5c w e=some (onN w e):=by
 rw [H3] at hi;obtain ⟨i,hA⟩:∃i:Nat,e.A=(i:Int):=⟨e.A.toNat,by omega⟩
 obtain ⟨n,hg,hn,hid,hni,hlt⟩:=a32 h (i:=i) (by omega);have hal:=h.al;unfold a5c onN;rw [hA,a7q,hg,e9M,hn];cases e.a6==1
 ·cases e.a6==5
  ·cases e.a6==6
   ·cases e.a6==7
    ·rfl
    ·simp only [f1C,f1D];rw [e7g hni,e9M,b0i h.nl h.ml h.tl (by exact hni.id) (by simp) (by simp),e9M,a15,c3P];simp only [e9M,l8.go,b7A];rw [show (a4d n).Id=(i:Int) from hid]
   ·simp only [f1C,f1D];have hr:=b8i hni;have hl:=c09 n;rw [e6R hni,e9M];simp only;rw [b0i h.nl h.ml h.tl (by rw [hr.id];exact hni.id) (by omega) (by simp),e9M,a15,hr.id,hid];rfl
  ·simp only [f1C,f1D];have hr:=b0U hni;have hl:=b8T n;rw [d7e hni,e9M,b0i h.nl h.ml h.tl (by rw [hr.id];exact hni.id) (by omega) (by simp),e9M,a15,hr.id,hid];rfl
 ·simp only [f1C];unfold a6m;rw [show decide ((w.g7.length:Int)>=60)=decide (60<=w.g7.length) by simp;omega];cases decide (60<=w.g7.length)
  ·simp only [f1D];have hr:=b3p hni (c46 he);have hl:=b9P n e.i7;rw [e2Z hni he,e9M];simp only;rw [b0i h.nl h.ml h.tl (by rw [hr.id];exact hni.id) (by omega) (by simp),e9M,a15,hr.id,hid,hn];rcases e6W n e.i7 with ⟨c1,c2,c3⟩|⟨c1,c2⟩
   ·rw [show ((N9 n e.i7).1.Seq != n.Seq)=true by rw [c2];simp;omega,show decide ((N9 n e.i7).1.Seq>n.Seq)=true by rw [c2];simp;omega];simp only [f1C];rw [t6 (by show (w.g7.length+1)*40<=_;omega)];simp only [e9M,l8.go,b7A];rw [c3,c2,hid];rfl
   ·rw [c2,show (n.Seq != n.Seq)=false by simp,show decide (n.Seq>n.Seq)=false by simp];rfl
  ·rfl
theorem d5E{w:m8}(h:WI w){e:w9}{k:Nat}(hA:e.A=(k:Int))(hk:k<w.d8.length)(hkd:(e.a6==2||(e.a6==3||e.a6==4))=true):a7Z w e=some (a2K w e):=by
 have hml:=h.ml;unfold a7Z a2K;rw [hA,u6 hk,e9M,show decide (0<=(k:Int))=true by simp,f0h,e9N hk];have hm:=h.ms _ (e9Q hk);generalize w.d8[k]=m at hm;have hof:=d8a hk (by omega);have ht:=hm.to;obtain ⟨t,htt⟩:∃t:Nat,m.To=(t:Int):=⟨m.To.toNat,by omega⟩
 simp only [f1C];by_cases k2:e.a6=2
 ·rw [show (e.a6==2)=true by simpa using k2,show (e.a6==4)=false by simp [k2],show (e.a6==3)=false by simp [k2]];simp only [f1C,f1D];have ho:=h.off (k:Int);obtain ⟨n,hg,hn,hid,hni,hlt⟩:=a32 ho (i:=t) (by omega);have hn':Q0 w (t:Int)=n:=hn;have hg':w.b7[t]?=some n:=hg;have hr:=b1w hni hm;obtain ⟨l1,l2⟩:=c2Z hni m;rw [hof,e9M,htt,a7q,hg',e9M,e1e hni hm (htt.trans hid.symm),e9M,b0i (w:=⟨w.b7,w.d8.take k++w.d8.drop (k+1),w.g7,w.Told⟩) h.nl ho.ml h.tl (by rw [hr.id];exact hni.id) (by omega) (by omega),e9M,hn',hr.id,hid];rfl
 ·rw [show (e.a6==2)=false by simpa using k2];cases k3:e.a6==3
  ·rw [show (e.a6==4)=true by rw [show (e.a6==2)=false by simpa using k2,k3] at hkd;simpa using hkd];simp only [f1C,f1D];obtain ⟨n,hg,hn,hid,hni,hlt⟩:=a32 h (i:=t) (by omega);rw [htt,a7q,hg,e9M,b0i h.nl h.ml h.tl hni.id (by simp) (by simp),e9M,a15,hid,c1J hg];rfl
  ·rw [show (e.a6==4)=false by simp only [beq_iff_eq] at k3;simp [k3]];simp only [f1C,f1D];rw [hof];rfl
theorem c7z{w:m8}(h:WI w){e:w9}(he:M1 e):b3L w e=some (M4 w e):=by
 have hd:=b7e h he;have hml:=h.ml;have hcp:a2o w=some w:=c3B h.ok;have hcd:a2o (M4 w e)=some (M4 w e):=c3B hd.ok;have hin:m4 ((w.b7.length:Int)-1)=2:=by rw [h.nl];rfl
 have hnode:(e.a6==2||(e.a6==3||e.a6==4))=false->((D3 e.A 0 2).bind fun in_=>bif in_ then (a5c w e).bind fun o=>some (l8.brk o) else some (l8.brk w):Option (l8 m8 m8))=some (.brk (M4 w e)):=by
  intro hk;rw [M0,e9M,b9n,hk];cases hi:q8 e.A 0 2
  ·rfl
  ·simp only [f1C,f1D];rw [e5L h he hi];rfl
 have hmsg:(e.a6==2||(e.a6==3||e.a6==4))=true->((D3 e.A 0 (m4 ((w.d8.length:Int)-1))).bind fun in_=>bif in_ then (a7Z w e).bind fun o=>some (l8.brk o) else some (l8.brk w):Option (l8 m8 m8))=some (.brk (M4 w e)):=by
  intro hk;rw [B8 (by omega) (by omega),M0,e9M,b9n,hk];cases hi:q8 e.A 0 ((w.d8.length:Int)-1)
  ·simp only [f1C,f1D];rw [show a2K w e=w by
    unfold a2K;cases h0:decide (0<=e.A)
    ·rfl
    ·have:¬(0<=e.A/\e.A<=(w.d8.length:Int)-1):=fun q=>by rw [H3.2 q] at hi;cases hi
     have h0':0<=e.A:=of_decide_eq_true h0;rw [f0i (by omega)];rfl]
  ·rw [H3] at hi;simp only [f1C];rw [d5E h (k:=e.A.toNat) (by omega) (by omega) hk];rfl
 unfold b3L;rw [hcp,e9M,hin];by_cases k1:e.a6=1
 ·have hf:(e.a6==2||(e.a6==3||e.a6==4))=false:=by simp [k1]
  rw [show (e.a6==1)=true by simpa using k1];simp only [f1C];rw [hnode hf];simp only [e9M,l8.go,c1F,hcd]
 rw [show (e.a6==1)=false by simpa using k1];by_cases k5:e.a6=5
 ·have hf:(e.a6==2||(e.a6==3||e.a6==4))=false:=by simp [k5]
  rw [show (e.a6==5)=true by simpa using k5];simp only [f1C,f1D];rw [hnode hf];simp only [e9M,l8.go,c2S,hcd]
 rw [show (e.a6==5)=false by simpa using k5];by_cases k6:e.a6=6
 ·have hf:(e.a6==2||(e.a6==3||e.a6==4))=false:=by simp [k6]
  rw [show (e.a6==6)=true by simpa using k6];simp only [f1C,f1D];rw [hnode hf];simp only [e9M,l8.go,c2r,hcd]
 rw [show (e.a6==6)=false by simpa using k6];simp only [f1D];have fin:∀X:Option (l8 m8 m8),X=some (.brk (M4 w e))->(X.bind fun x=>x.go some fun j=>b6I j)=some (M4 w e):=by
  intro X hX;rw [hX];simp only [e9M,l8.go,b6I,hcd]
 refine fin _ ?_;by_cases k7:e.a6=7
 ·rw [show (e.a6==7)=true by simpa using k7];exact hnode (by simp [k7])
 rw [show (e.a6==7)=false by simpa using k7];by_cases k2:e.a6=2
 ·rw [show (e.a6==2)=true by simpa using k2];exact hmsg (by simp [k2])
 by_cases k3:e.a6=3
 ·rw [show (e.a6==2)=false by simpa using k2,show (e.a6==3)=true by simpa using k3];exact hmsg (by simp [k3])
 by_cases k4:e.a6=4
 ·rw [show (e.a6==2)=false by simpa using k2,show (e.a6==3)=false by simpa using k3,show (e.a6==4)=true by simpa using k4];exact hmsg (by simp [k4])
 have e2:(e.a6==2)=false:=by simpa using k2
 have e3:(e.a6==3)=false:=by simpa using k3
 have e4:(e.a6==4)=false:=by simpa using k4
 rw [e2,e3,e4,b9n,e2,e3,e4];have:onN w e=w:=by
  unfold onN;rw [show (e.a6==1)=false by simpa using k1,show (e.a6==5)=false by simpa using k5,show (e.a6==6)=false by simpa using k6,show (e.a6==7)=false by simpa using k7];rfl
 rw [this];cases q8 e.A 0 2<;>rfl
theorem e54{w:m8}(h:WI w){e:w9}(he:M1 e):b4P w e=some (M4 w e):=by
 unfold b4P;rw [b3O h.ok,e9M,a8n.2 h];simp only [e9S,f1D];rw [c7z h he];rfl
theorem d0Z{l:List w9}(hl:u5 l)(he:∀e∈l,M1 e):∀(d k:Nat) (w:m8),WI w->l.length-k=d->s2 (fun s:Int×m8=>a5r l s.1 s.2) ((k:Int),w)=some (.brk (a06 w (l.drop k)))
 | 0,k,w,h,hd=>by
  rw [e94 (by omega)];refine D7 (body:=fun s:Int×m8=>a5r l s.1 s.2) (b:=w) ?_;unfold a5r;rw [show decide ((k:Int)<(l.length:Int))=false by simp;omega];rfl
 | d+1,k,w,h,hd=>by
  have hlt:k<l.length:=by omega
  have hek:=he _ (e9Q hlt);rw [F7 (body:=fun s:Int×m8=>a5r l s.1 s.2) (t:=(((k+1:Nat):Int),M4 w l[k])) (by
   unfold a5r;rw [z0 _ k hlt,u6 hlt,f1C,e9M,c7z h hek,e9M,G0 hl hlt]),d0Z hl he d (k+1) _ (b7e h hek) (by omega),e98 hlt]
  rfl
theorem b9G{w:m8}(h:a0u w){l:List w9}(hl:u5 l)(he:∀e∈l,M1 e):a8W w l=some (bif L3 w&&decide (l.length<=400) then a06 w l else noW):=by
 unfold a8W;rw [b3O h,e9M,show decide ((l.length:Int)>400) = !decide (l.length<=400) from a9O l 400];cases hw:L3 w
 ·rfl
 ·cases decide (l.length<=400)
  ·rfl
  ·simp only [e9S,f1D,f1u,f1C];rw [c3B h,e9M,show s2 (fun s:Int×m8=>a5r l s.1 s.2) (0,w)=_ from d0Z hl he l.length 0 w (a8n.1 hw) rfl];rfl
theorem b84{r:o6}{m:Nat}(h:Rd r m)(hm:m<=20000000):∃e r',a6h r b1Q=some (e,r',b1Q)/\Rd r' (m+300)/\E0 e:=by
 obtain ⟨v,r1,a1,a2,a3,a4⟩:=C7 h (by omega) 8;unfold a6h;simp only [a1,e9M];cases v==0
 ·obtain ⟨p1,r2,b1,b2,b3,b4⟩:=C7 a2 (by omega) 3;obtain ⟨p2,r3,c1,c2,c3,c4⟩:=C7 b2 (by omega) 6;obtain ⟨pr,r4,d1,d2,d3⟩:=a9Q c2 (by omega);obtain ⟨run,e1,e2,e3,e4⟩:=d9Q (l:=b1Q) (prog:=pr) (by unfold u5 b1Q;decide) (by unfold u5;omega);obtain ⟨p3,r5,f1,f2,f3,f4⟩:=C7 d2 (by omega) 40;obtain ⟨k1,k2,k3,k4⟩:=d1Z (e2 (by decide)).ok;have hw:C2 p1:=w8 (by omega);have o3:C2 3:=w8 (by decide);have hs:C2 (m4 (1+p2)):=w8 (by rw [B8 (by omega) (by omega)];omega);simp only [f1D,b1,c1,d1,e1,f1,e9M];unfold c20;cases p3==0
  ·cases p3==1
   ·cases p3==2
    ·exact ⟨_,_,rfl,f2.mono (by omega),⟨hw,hs⟩,k1,k2,k3,k4⟩
    ·exact ⟨_,_,rfl,f2.mono (by omega),⟨hw,hs⟩,k1,k2,k3,o3⟩
   ·exact ⟨_,_,rfl,f2.mono (by omega),⟨hw,hs⟩,k1,k2,k3,k4⟩
  ·obtain ⟨n1,r6,g1,g2,g3⟩:=a1C f2 (by omega) [0,1001] (by decide) (by decide);have o4:C2 n1:=w8 (by simp at g3;omega);simp only [f1C,g1,e9M,l8.go];exact ⟨_,_,rfl,g2.mono (by omega),⟨hw,o4⟩,k1,k2,k3,k4⟩
 ·exact ⟨_,_,rfl,a2.mono (by omega),c02⟩
theorem c06{l:List m6}{v:m6}(h:∀x∈l,G3 x)(hv:G3 v):∀x∈l++[v],G3 x:=by
 intro x hx;rcases e9P.1 hx with q|q
 ·exact h x q
 ·rw [e9Z.1 q];exact hv
theorem d8P{l:List m6}(h:∀x∈l,G3 x){n k:Nat}{v:m6}(hv:G3 v):∀x∈(U4 l n).set k v,G3 x:=by
 intro x hx;rcases e99 hx with q|q
 ·rcases e9P.1 q with q|q
  ·exact h x q
  ·rw [(f0r.1 q).2];exact b6y
 ·rw [q];exact hv
theorem d3o{r:o6}{m:Nat}(h:Rd r m)(hm:m<=10001000):∃a r',b2G r=some (a,r')/\Rd r' (m+3000)/\a.a0.length<=41/\∀v∈a.a0,G3 v:=by
 obtain ⟨n,r1,a1,a2,a3,a4⟩:=C7 h (by omega) 6;obtain ⟨x,hx,hq⟩:=a5C (body:=fun s:o6×(List m6)×Int×Int=>b4x s.1 s.2.1 s.2.2.1 s.2.2.2)
  (fun j s=>s.2.2.1=(j:Int)/\j<=5/\Rd s.1 (m+1+310*(5-j))/\s.2.1.length<=40/\(∀v∈s.2.1,G3 v)/\0<=s.2.2.2/\s.2.2.2<=3000)
  (fun x => ∃ (r':o6) (l:List m6) (p:Int),x=.brk (r',l,p)/\Rd r' (m+2000)/\l.length<=40/\(∀v∈l,G3 v)/\0<=p/\p<=3000) (by
   rintro j ⟨r1,vs,i,p⟩ ⟨q1,q2,q3,q4,q5,q6,q7⟩
   simp only at q1 q3 q4 q5 q6 q7⊢;subst q1;unfold b4x;cases j with
   | zero=>exact ⟨_,rfl,_,_,_,rfl,q3.mono (by omega),q4,q5,q6,q7⟩
   | succ j=>
    obtain ⟨d,r2,b1,b2,b3,b4⟩:=C7 q3 (by omega) 4;obtain ⟨e,r3,c1,c2,c3,c4⟩:=C7 b2 (by omega) 3;obtain ⟨s,r4,d1,d2,d3,d4⟩:=C7 c2 (by omega) 4;obtain ⟨en,r5,e1,e2,e3⟩:=b84 d2 (by omega);have hb:m4 (p+d)=p+d:=B8 (by omega) (by omega);rw [show decide (((j+1:Nat):Int)>0)=true by simp,f1C,b1,e9M,c1,e9M,hb,b24 (show j<1000 by omega)];cases e==0
    ·simp only [f1D,d1,b3C,e1,e9M];rw [t6 trivial,c22 e3,e9M];cases hc:O8 ⟨p,vs⟩ (p+d) s en with
     | none=>exact ⟨_,rfl,j,by omega,rfl,by omega,e2.mono (by omega),q4,q5,q6,q7⟩
     | some x=>
      obtain ⟨k,f1,f2,f3,f4,f5,f6,rfl⟩:=b9o hc;have o1:C2 (p+d):=w8 (by omega);refine ⟨_,rfl,j,by omega,rfl,by omega,e2.mono (by omega),?_,d8P q5 ⟨o1,e3⟩,by simp only;omega,by simp only;omega⟩;simp only [f0z,U4,e91,List.length_replicate];omega
    ·simp only [f1C,b3o,e9M];cases hc:J2 ⟨p,vs⟩ (p+d) with
     | none=>exact ⟨_,rfl,j,by omega,rfl,by omega,c2.mono (by omega),q4,q5,q6,q7⟩
     | some x=>
      unfold J2 a7E at hc;cases hcc:q8 (p+d) 1 3000&&decide (p<=p+d)
      ·rw [hcc] at hc;cases hc
      ·rw [hcc] at hc;injection hc with hc;subst hc;rw [e9R,H3] at hcc;exact ⟨_,rfl,j,by omega,rfl,by omega,c2.mono (by omega),q4,q5,by simp only;omega,by simp only;omega⟩) (k:=n.toNat) (s:=(r1,[],n,0)) ⟨by simp only;omega,by omega,a2.mono (by omega),by simp,by simp,by simp,by simp⟩
 obtain ⟨r2,l,p,rfl,b1,b2,b3,b4,b5⟩:=hq;unfold b2G;rw [a1,e9M,hx];simp only [e9M,l8.go];unfold c0n;obtain ⟨t,r3,c1,c2,c3,c4⟩:=C7 b1 (by omega) 40;rw [c1,e9M];simp only;cases t==0
 ·cases t==1
  ·cases t==2
   ·exact ⟨_,_,rfl,c2.mono (by omega),by simp only;omega,b3⟩
   ·exact ⟨_,_,rfl,c2.mono (by omega),by simp only;omega,b3⟩
  ·obtain ⟨u,r4,d1,d2,d3,d4⟩:=C7 c2 (by omega) 9;obtain ⟨en,r5,e1,e2,e3⟩:=b84 d2 (by omega);have o5:C2 u:=w8 (by omega);simp only [f1D,f1C,d1,b3C,e1,e9M];rw [t6 trivial,t6 (by omega)];exact ⟨_,_,rfl,e2.mono (by omega),by simp;omega,c06 b3 ⟨o5,e3⟩⟩
 ·obtain ⟨u,r4,d1,d2,d3⟩:=a1C c2 (by omega) [-1,3001,0] (by decide) (by decide);simp only [f1C,d1,e9M];exact ⟨_,_,rfl,d2.mono (by omega),by simp only;omega,b3⟩
theorem b4v{l:List m6}(h:l.length<=41)(hv:∀v∈l,G3 v):z9 96 G3 l:=S9 (by omega) hv
theorem b9c{r:o6}{m:Nat}(h:Rd r m)(hm:m<=100000000){x:j9}(hx:F9 x){b s:Int}(hb:C2 b)(hs:C2 s):∃y r',b5K r x b s=some (y,r')/\Rd r' (m+2)/\F9 y:=by
 obtain ⟨x1,x2,x3,x4,x5,x6,x7⟩:=hx;obtain ⟨t,r1,c1,c2,c3,c4⟩:=C7 h (by omega) 40;obtain ⟨u,r2,d1,d2,d3⟩:=a1C c2 (by omega) [0,9] (by decide) (by decide);obtain ⟨u3,r3,e1,e2,e3⟩:=a1C c2 (by omega) [-1,3001,0] (by decide) (by decide);obtain ⟨u4,r4,f1,f2,f3⟩:=a1C c2 (by omega) [-1,40,41] (by decide) (by decide);have o1:C2 u:=w8 (by simp at d3;omega);have o2:C2 u3:=w8 (by simp at e3;omega);have o3:C2 u4:=w8 (by simp at f3;omega);unfold b5K;simp only [c1,d1,e1,f1,e9M];cases t==0
 ·cases t==1
  ·cases t==2
   ·cases t==3
    ·exact ⟨_,_,rfl,c2.mono (by omega),x1,x2,x3,hb,hs,x6,x7⟩
    ·exact ⟨_,_,rfl,f2.mono (by omega),x1,x2,x3,hb,o3,x6,x7⟩
   ·exact ⟨_,_,rfl,e2.mono (by omega),x1,x2,x3,o2,hs,x6,x7⟩
  ·exact ⟨_,_,rfl,c2.mono (by omega),x1,x2,x2,hb,hs,x6,x7⟩
 ·exact ⟨_,_,rfl,d2.mono (by omega),o1,x2,x3,hb,hs,x6,x7⟩
theorem b8v{r:o6}{m:Nat}(h:Rd r m)(hm:m<=100000000)(x:j9)(hx:F9 x){b:Int}(hb:C2 b):∃y r',b2H r x b=some (y,r')/\Rd r' (m+2)/\F9 y:=by
 have z:C2 0:=w8 (by decide);unfold b2H;cases x.a6==6
 ·cases x.a6==7
  ·exact b9c h hm hx hb hx.2.2.2.2.1
  ·exact b9c h hm hx hb z
 ·exact b9c h hm hx hb z
theorem d4K{r:o6}{m:Nat}(h:Rd r m)(hm:m<=100000000)(x:j9)(hx:F9 x):∃y r',b18 r x=some (y,r')/\Rd r' (m+2)/\F9 y:=by
 have z:C2 0:=w8 (by decide);unfold b18;cases x.a6==5
 ·cases decide (x.a6>=7)
  ·exact b8v h hm x hx hx.2.2.2.1
  ·exact b8v h hm x hx z
 ·exact b8v h hm x hx z
theorem c8n{a b:Int}(ha:0<=a/\a<=2)(hb:0<=b/\b<=1):0<=e9U (m4 (m4 (a+1)+b)) 3/\e9U (m4 (m4 (a+1)+b)) 3<3:=by
 rw [B8 (show -9223372036854775808<=a+1 by omega) (by omega),B8 (by omega) (by omega)];exact b0c (by omega) (by omega)
theorem b9t{r:o6}{m:Nat}(h:Rd r m)(hm:m<=10000000):∃x r',a9x r=some (x,r')/\Rd r' (m+3100)/\F9 x:=by
 obtain ⟨a,r1,a1,a2,a3,a4⟩:=C7 h (by omega) 8;obtain ⟨b,r2,b1,b2,b3,b4⟩:=C7 a2 (by omega) 3;obtain ⟨c,r3,c1,c2,c3,c4⟩:=C7 b2 (by omega) 9;obtain ⟨d,r4,d1,d2,d3,d4⟩:=C7 c2 (by omega) 4;obtain ⟨e,r5,e1,e2,e3,e4⟩:=C7 d2 (by omega) 2;obtain ⟨en,r6,f1,f2,f3⟩:=b84 e2 (by omega);obtain ⟨ac,r7,g1,g2,g3,g4⟩:=d3o e2 (by omega);have k1:C2 (m4 (1+a)):=w8 (by rw [B8 (by omega) (by omega)];omega);have k2:C2 b:=w8 (by omega);have ht:=c8n (a:=b) (b:=e) (by omega) (by omega);have k3:C2 (e9U (m4 (m4 (b+1)+e)) 3):=w8 (by omega);have k4:C2 (m4 (1+c)):=w8 (by rw [B8 (by omega) (by omega)];omega);have k5:C2 d:=w8 (by omega);have nl:z9 96 G3 []:=b4v (by simp) (by simp);unfold a9x;rw [a1,e9M,b1,e9M,c1,e9M,d1,e9M,e1,e9M];simp only;have fin:∀(r:o6) (x:j9),Rd r (m+3006)->F9 x->∃y r',b18 r x=some (y,r')/\Rd r' (m+3100)/\F9 y:=by
  intro r x hr hx;obtain ⟨y,r',y1,y2,y3⟩:=d4K hr (by omega) x hx;exact ⟨y,r',y1,y2.mono (by omega),y3⟩
 have fin9:∀(r:o6) (x:j9),Rd r (m+3006)->F9 x->∃y r',b2H r x 0=some (y,r')/\Rd r' (m+3100)/\F9 y:=by
  intro r x hr hx;obtain ⟨y,r',y1,y2,y3⟩:=b8v hr (by omega) x hx (w8 (n:=0) (by decide));exact ⟨y,r',y1,y2.mono (by omega),y3⟩
 have fa:Rd r6 (m+3006):=f2.mono (by omega);cases m4 (1+a)==3
 ·cases m4 (1+a)==5
  ·cases m4 (1+a)==7
   ·cases m4 (1+a)==2
    ·exact fin r5 ⟨m4 (1+a),b,e9U (m4 (m4 (b+1)+e)) 3,m4 (1+c),d,zE,[]⟩ (e2.mono (by omega)) ⟨k1,k2,k3,k4,k5,U8,nl⟩
    ·simp only [f1D,f1C,g1,e9M];exact fin r7 ⟨m4 (1+a),b,e9U (m4 (m4 (b+1)+e)) 3,m4 (1+c),d,zE,ac.a0⟩ (g2.mono (by omega)) ⟨k1,k2,k3,k4,k5,U8,b4v g3 g4⟩
   ·simp only [f1D,f1C,b3C,f1,e9M];rw [t6 trivial];exact fin r6 ⟨m4 (1+a),b,e9U (m4 (m4 (b+1)+e)) 3,m4 (1+c),d,en,[]⟩ fa ⟨k1,k2,k3,k4,k5,f3,nl⟩
  ·simp only [f1D,f1C,b3C,f1,e9M];rw [t6 trivial];exact fin9 r6 ⟨m4 (1+a),b,e9U (m4 (m4 (b+1)+e)) 3,m4 (1+c),d,en,[]⟩ fa ⟨k1,k2,k3,k4,k5,f3,nl⟩
 ·simp only [f1C,b3C,f1,e9M];rw [t6 trivial];exact fin r6 ⟨m4 (1+a),b,e9U (m4 (m4 (b+1)+e)) 3,m4 (1+c),d,en,[]⟩ fa ⟨k1,k2,k3,k4,k5,f3,nl⟩
theorem d8K{l:List m6}(hl:l.length<=41)(hv:∀v∈l,G3 v)(b:Int):∃o,b7n l b=some o/\o.length<=41/\∀v∈o,G3 v:=by
 obtain ⟨x,hx,hq⟩:=a5C (body:=fun s:(List m6)×Int=>b6G l b s.1 s.2)
  (fun k s=>s.2=(s.1.length:Int)/\s.1.length+k=3/\∀v∈s.1,G3 v)
  (fun x => ∃o:List m6,x=.brk o/\o.length<=3/\∀v∈o,G3 v) (by
   rintro k ⟨o,i⟩ ⟨q1,q2,q3⟩
   simp only at q1 q2 q3;subst q1;unfold b6G;by_cases h1:o.length<l.length
   ·rw [show decide ((o.length:Int)<(l.length:Int))=true by simpa using h1,f1C];by_cases h2:o.length<3
    ·have hg:=hv _ (e9Q h1);have hw:m4 ((o.length:Int)+1)=((o.length+1:Nat):Int):=by rw [B8 (by omega) (by omega)];omega
     rw [show decide ((o.length:Int)<3)=true by simp;omega,f1C,u6 h1,e9M];simp only;cases decide (l[o.length].a8<b)
     ·rw [f1D,t6 (by omega)];simp only [e9M,l8.go,b54,hw];exact ⟨_,rfl,k-1,by omega,by simp,by simp;omega,c06 q3 b6y⟩
     ·rw [f1C,t6 (by omega)];simp only [e9M,l8.go,b54,hw];exact ⟨_,rfl,k-1,by omega,by simp,by simp;omega,c06 q3 hg⟩
    ·rw [show decide ((o.length:Int)<3)=false by simp;omega];exact ⟨_,rfl,o,rfl,by omega,q3⟩
   ·rw [show decide ((o.length:Int)<(l.length:Int))=false by simpa using h1];exact ⟨_,rfl,o,rfl,by omega,q3⟩) (k:=3) (s:=([],0)) ⟨rfl,rfl,by simp⟩
 obtain ⟨o,rfl,h1,h2⟩:=hq;unfold b7n;rw [hx];exact ⟨o,rfl,by omega,h2⟩
theorem e5t{r:o6}{m:Nat}(h:Rd r m)(hm:m<=100000000){n:j8}(hn:NI n)(x:j9)(hx:F9 x):∃y r',b1X n r x=some (y,r',n)/\Rd r' (m+2)/\F9 y:=by
 obtain ⟨x1,x2,x3,x4,x5,x6,x7⟩:=hx;obtain ⟨t,r1,c1,c2,c3,c4⟩:=C7 h (by omega) 2;obtain ⟨u,r2,d1,d2,d3,d4⟩:=C7 c2 (by omega) 3;have hp:=hn.pr;have o1:C2 (m4 (n.Acc.i5+u)):=w8 (by rw [B8 (by omega) (by omega)];omega);unfold b1X;simp only [c1,d1,e9M];cases x.a6==3
 ·exact ⟨_,_,rfl,h.mono (by omega),x1,x2,x3,x4,x5,x6,x7⟩
 ·cases t==0
  ·exact ⟨_,_,rfl,c2.mono (by omega),x1,x2,x3,x4,x5,x6,x7⟩
  ·exact ⟨_,_,rfl,d2.mono (by omega),x1,x2,x3,o1,x5,x6,x7⟩
theorem e5W{r:o6}{m:Nat}(h:Rd r m)(hm:m<=10000000){n:j8}(hn:NI n)(x:j9)(hx:F9 x):∃y r',b3P n r x=some (y,r',n)/\Rd r' (m+3010)/\F9 y:=by
 obtain ⟨x1,x2,x3,x4,x5,x6,x7⟩:=hx;obtain ⟨a,r1,a1,a2,a3,a4⟩:=C7 h (by omega) 2;obtain ⟨b,r2,b1,b2,b3,b4⟩:=C7 a2 (by omega) 2;obtain ⟨c,r3,c1,c2,c3,c4⟩:=C7 a2 (by omega) 3;obtain ⟨d,r4,d1,d2,d3,d4⟩:=C7 b2 (by omega) 3;obtain ⟨e,r5,e1,e2,e3,e4⟩:=C7 b2 (by omega) 2;obtain ⟨f,r6,f1,f2,f3,f4⟩:=C7 e2 (by omega) 3;obtain ⟨ac,r7,g1,g2,g3,g4⟩:=d3o b2 (by omega);obtain ⟨lo,l1,l2,l3⟩:=d8K g3 g4 n.a8;have hid:=hn.id;have hkl:=hn.kl;have ht:=c8n (a:=n.Id) (b:=a) hid (by omega);have k2:C2 (e9U (m4 (m4 (n.Id+1)+a)) 3):=w8 (by omega);have k3:C2 n.Id:=w8 (by omega);have k4:C2 n.a8:=hn.ok.2.2.2.2.2.1;have k5:C2 (n.a7.length:Int):=w8 (by omega);have o2:C2 2:=w8 (by decide);have o4:C2 4:=w8 (by decide);have nl:z9 96 G3 []:=b4v (by simp) (by simp);have fin:∀(r:o6) (x:j9),Rd r (m+3008)->F9 x->∃y r',b1X n r x=some (y,r',n)/\Rd r' (m+3010)/\F9 y:=fun r x hr hx=>e5t hr (by omega) hn x hx
 have mC:F9 ⟨x.a6,e9U (m4 (m4 (n.Id+1)+a)) 3,n.Id,x.a8,(n.a7.length:Int),x.g9,x.a0⟩:=⟨x1,k2,k3,x4,k5,x6,x7⟩
 have mD:F9 ⟨x.a6,e9U (m4 (m4 (n.Id+1)+a)) 3,n.Id,x.a8,x.g8,x.g9,x.a0⟩:=⟨x1,k2,k3,x4,x5,x6,x7⟩
 have mB:F9 ⟨4,e9U (m4 (m4 (n.Id+1)+a)) 3,n.Id,n.a8,(n.a7.length:Int),zE,[]⟩:=⟨o4,k2,k3,k4,k5,U8,nl⟩
 have mA:F9 ⟨2,e9U (m4 (m4 (n.Id+1)+a)) 3,n.Id,n.a8,(n.a7.length:Int),zE,lo⟩:=⟨o2,k2,k3,k4,k5,U8,b4v l2 l3⟩
 unfold b3P;simp only [a1,b1,c1,d1,e1,f1,g1,l1,e9M];cases n.f0==1
 ·cases n.f0==3
  ·cases x.a6==5
   ·exact fin _ _ (a2.mono (by omega)) mD
   ·cases decide (c>0)
    ·exact fin _ _ (c2.mono (by omega)) mD
    ·exact fin _ _ (c2.mono (by omega)) mC
  ·cases b==0
   ·cases x.a6==5
    ·exact fin _ _ (b2.mono (by omega)) mD
    ·cases decide (d>0)
     ·exact fin _ _ (d2.mono (by omega)) mD
     ·exact fin _ _ (d2.mono (by omega)) mC
   ·exact fin _ _ (b2.mono (by omega)) mB
 ·cases b==0
  ·cases n.f0==3
   ·cases x.a6==5
    ·exact fin _ _ (b2.mono (by omega)) mD
    ·cases decide (d>0)
     ·exact fin _ _ (d2.mono (by omega)) mD
     ·exact fin _ _ (d2.mono (by omega)) mC
   ·cases e==0
    ·cases x.a6==5
     ·exact fin _ _ (e2.mono (by omega)) mD
     ·cases decide (f>0)
      ·exact fin _ _ (f2.mono (by omega)) mD
      ·exact fin _ _ (f2.mono (by omega)) mC
    ·exact fin _ _ (e2.mono (by omega)) mB
  ·exact fin _ _ (g2.mono (by omega)) mA
theorem e3x{r:o6}{m:Nat}(h:Rd r m)(hm:m<=9000000){n:j8}(hn:NI n):∃y r',b4E r n=some (y,r',n)/\Rd r' (m+16000)/\F9 y:=by
 obtain ⟨x0,r0,a1,a2,a3⟩:=b9t h (by omega);obtain ⟨x,hx,hq⟩:=a5C (body:=fun s:o6×j9×Int=>b7t s.1 s.2.1 s.2.2)
  (fun k s=>s.2.2=((3-k:Nat):Int)/\k<=3/\Rd s.1 (m+3100+3100*(3-k))/\F9 s.2.1)
  (fun x => ∃ (r:o6) (y:j9),x=.brk (r,y)/\Rd r (m+12400)/\F9 y) (by
   rintro k ⟨r,y,i⟩ ⟨q1,q2,q3,q4⟩
   simp only at q1 q3 q4;subst q1;unfold b7t;cases k with
   | zero=>exact ⟨_,rfl,_,_,rfl,q3.mono (by omega),q4⟩
   | succ k=>
    simp only;rw [show decide (((3-(k+1):Nat):Int)<3)=true by simp;omega,f1C,c1l q4,e9M];cases I0 y
    ·obtain ⟨z,r1,b1,b2,b3⟩:=b9t q3 (by omega);simp only [e97,f1C,b1,e9M];refine ⟨_,rfl,k,by omega,?_,by omega,b2.mono (by omega),b3⟩;rw [B8 (by omega) (by omega)];simp only;omega
    ·exact ⟨_,rfl,_,_,rfl,q3.mono (by omega),q4⟩) (k:=3) (s:=(r0,x0,0)) ⟨rfl,by omega,a2.mono (by omega),a3⟩
 obtain ⟨r1,y,rfl,b1,b2⟩:=hq;unfold b4E;rw [a1,e9M,hx];obtain ⟨z,r2,c1,c2,c3⟩:=e5W b1 (by omega) hn y b2;exact ⟨z,r2,c1,c2.mono (by omega),c3⟩
theorem e0A{n:j8}(h:NI n){m:j9}(hm:F9 m):∃x,b7j n m=some x/\NI x.1:=by
 unfold b7j;rw [a7B h.ok,e9M,a0p.2 h,c1l hm];simp only [e9S,f1D,e9M,a9h h.ok];cases hk:I0 m
 ·exact ⟨_,rfl,h⟩
 ·have hmi:=c0o.1 hk;cases m.To != n.Id
  ·simp only [e9S,f1D,d2B h hmi,e9M];exact ⟨_,rfl,(b1w h hmi).ni⟩
  ·exact ⟨_,rfl,h⟩
theorem e5H{r:o6}{m:Nat}(h:Rd r m)(hm:m<=1000000):∃n r',b5T r=some (n,r')/\Rd r' (m+300000)/\P8 n:=by
 obtain ⟨a,r1,a1,a2,a3,a4⟩:=C7 h (by omega) 3;obtain ⟨v,r2,b1,b2,b3⟩:=a1C a2 (by omega) [0,3,8,14] (by decide) (by decide);obtain ⟨i,hi,hi14⟩:∃i:Nat,v=(i:Int)/\i<=14:=⟨v.toNat,by simp at b3;omega,by simp at b3;omega⟩
 subst hi;have ho:a8N a=some (H5 a):=by
  unfold a8N;rw [show decide (a<0)=false by simp;omega,show decide (a>=3)=false by simp;omega];rfl
 obtain ⟨x,hx,hq⟩:=a5C (body:=fun s:o6×Int×j8=>b0w s.1 s.2.1 s.2.2)
  (fun k s=>s.2.1=(k:Int)/\k<=14/\Rd s.1 (m+2+16100*(14-k))/\NI s.2.2)
  (fun x => ∃ (r:o6) (n:j8),x=.brk (r,n)/\Rd r (m+280000)/\NI n) (by
   rintro k ⟨r,i,n⟩ ⟨q1,q2,q3,q4⟩
   simp only at q1 q3 q4;subst q1;unfold b0w;cases k with
   | zero=>exact ⟨_,rfl,_,_,rfl,q3.mono (by omega),q4⟩
   | succ k=>
    obtain ⟨p,r3,c1,c2,c3,c4⟩:=C7 q3 (by omega) 6;simp only;rw [show decide (((k+1:Nat):Int)>0)=true by simp,f1C,c1,e9M];simp only;cases p==0
    ·cases p==1
     ·obtain ⟨y,r4,d1,d2,d3⟩:=e3x c2 (by omega) q4;obtain ⟨z,e1,e2⟩:=e0A q4 d3;simp only [f1D,d1,e9M];rw [t6 trivial,t6 trivial,t6 trivial,t6 trivial,t6 trivial,e1];simp only [e9M,l8.go,b3D,b24 (show k<1000 by omega)];exact ⟨_,rfl,k,by omega,rfl,by omega,d2.mono (by omega),e2⟩
     ·obtain ⟨pr,r4,d1,d2,d3⟩:=a9Q c2 (by omega);have hp:z9 32 okT pr:=⟨by omega,fun _ _=>trivial⟩
      simp only [f1D,f1C,d1,e9M,d1E q4 hp,l8.go,b3D,b24 (show k<1000 by omega)];exact ⟨_,rfl,k,by omega,rfl,by omega,d2.mono (by omega),(b3p q4 (hp.fits (by decide))).ni⟩
    ·simp only [f1C,c71 q4,e9M,l8.go,b3D,b24 (show k<1000 by omega)];exact ⟨_,rfl,k,by omega,rfl,by omega,c2.mono (by omega),(b0U q4).ni⟩) (k:=i) (s:=(r2,(i:Int),H5 a)) ⟨rfl,hi14,b2.mono (by omega),NI.open (by omega)⟩
 obtain ⟨r3,n,rfl,c1,c2⟩:=hq;unfold b5T;rw [a1,e9M,ho,e9M,b1,e9M,show s2 (fun s:o6×Int×j8=>b0w s.1 s.2.1 s.2.2) (r2,(i:Int),H5 a)=_ from hx];simp only [e9M,l8.go];obtain ⟨n1,n2,n3,n4,n5,n6,n7,n8,n9,n10,n11,n12,n13⟩:=c2.ok;have hkl:=c2.kl;obtain ⟨t,r4,d1,d2,d3,d4⟩:=C7 c1 (by omega) 40;obtain ⟨u,r5,e1,e2,e3⟩:=a1C d2 (by omega) [-1,1,2,3,4] (by decide) (by decide);obtain ⟨u2,r6,f1,f2,f3⟩:=a1C d2 (by omega) [-1,3] (by decide) (by decide);have o1:C2 u:=w8 (by simp at e3;omega);have o2:C2 u2:=w8 (by simp at f3;omega);have oe:E0 ⟨true,⟨1,0⟩,⟨[],[],0,0⟩⟩:=⟨⟨w8 (by decide),w8 (by decide)⟩,U8.2⟩
 unfold c3e;simp only [d1,e1,f1,e9M];cases t==0
 ·cases t==1
  ·cases t==2
   ·cases t==3
    ·exact ⟨_,_,rfl,d2.mono (by omega),n1,n2,n3,n4,n5,n6,n7,n8,n9,n10,n11,n12,n13⟩
    ·simp only [f1C,f1D];rw [t6 (by omega)];refine ⟨_,_,rfl,d2.mono (by omega),n1,n2,S9 (by simp;omega) ?_,n4,n5,n6,n7,n8,n9,n10,n11,n12,n13⟩;intro e he;rcases e9P.1 he with q|q
     ·exact n3.2 e q
     ·rw [e9Z.1 q];exact oe
   ·exact ⟨_,_,rfl,d2.mono (by omega),n1,n2,n3,n4,n5,n6,n7,n8,n9,n10,n11,n12,n13⟩
  ·exact ⟨_,_,rfl,f2.mono (by omega),o2,n2,n3,n4,n5,n6,n7,n8,n9,n10,n11,n12,n13⟩
 ·exact ⟨_,_,rfl,e2.mono (by omega),n1,n2,n3,n4,o1,n6,n7,n8,n9,n10,n11,n12,n13⟩
theorem e1X{r:o6}{m:Nat}(h:Rd r m)(hm:m<=1000000)(w:m8):∃e r',b6j r w=some (e,r')/\Rd r' (m+210)/\M1 e:=by
 obtain ⟨v,hv⟩:=d0z (w.d8.length:Int);obtain ⟨a,r1,e1,h1,_⟩:=C7 h (by omega) v;obtain ⟨b,r2,e2,h2,_⟩:=C7 h1 (by omega) 24;have ask:∃e r',((A3 r2 3).bind fun p=>(a0o p.2).bind fun q=>some (w9.mk 1 p.1 q.1,q.2))=some (e,r')/\Rd r' (m+210)/\M1 e:=by
  obtain ⟨c,r3,e3,h3,_⟩:=C7 h2 (by omega) 3;obtain ⟨p,r4,e4,h4,hp⟩:=a9Q h3 (by omega);rw [e3,e9M,e4,e9M];exact ⟨_,_,rfl,h4.mono (by omega),a07 hp⟩
 obtain ⟨c3,r3,e3,h3,_⟩:=C7 h2 (by omega) 3;obtain ⟨c4,r4,e4,h4,_⟩:=C7 h2 (by omega) 2;obtain ⟨c5,r5,e5,h5,_⟩:=C7 h4 (by omega) 3;obtain ⟨c6,r6,e6,h6,_⟩:=C7 h3 (by omega) 10;obtain ⟨c7,r7,e7,h7,_⟩:=C7 h6 (by omega) 5;obtain ⟨p,r8,e8,h8,hp⟩:=a9Q h3 (by omega);have z:∀(k x:Int) (r:o6) (j:Nat),Rd r j->j<=m+210->∃e r',(some (w9.mk k x [],r):Option (w9×o6))=some (e,r')/\Rd r' (m+210)/\M1 e:=fun k x r j hr hj=>⟨_,_,rfl,hr.mono hj,a07 (by simp)⟩
 unfold b6j;rw [hv,e9M,e1,e9M,e2,e9M];simp only [e3,e4,e5,e6,e7,e8,e9M];cases b==0
 ·cases b==1
  ·cases b==2
   ·cases b==3
    ·cases b==4
     ·cases b==5
      ·cases b==6
       ·cases b==7
        ·cases b==8
         ·cases b==9
          ·cases b==10
           ·exact z _ _ _ _ h2 (by omega)
           ·cases c3==0
            ·exact z _ _ _ _ h3 (by omega)
            ·exact z _ _ _ _ h7 (by omega)
          ·exact z _ _ _ _ h2 (by omega)
         ·exact z _ _ _ _ h2 (by omega)
        ·cases c4==0
         ·exact z _ _ _ _ h4 (by omega)
         ·exact z _ _ _ _ h5 (by omega)
       ·exact z _ _ _ _ h3 (by omega)
      ·exact z _ _ _ _ h3 (by omega)
     ·exact z _ _ _ _ h3 (by omega)
    ·exact ⟨_,_,rfl,h8.mono (by omega),a07 hp⟩
   ·exact ⟨_,_,rfl,h8.mono (by omega),a07 hp⟩
  ·exact ⟨_,_,rfl,h8.mono (by omega),a07 hp⟩
 ·exact ⟨_,_,rfl,h8.mono (by omega),a07 hp⟩
theorem d9W(w:m8)(e:w9):b9k w e=a6D w e:=rfl
theorem e9a{r:o6}(h:Rd r 0):∃w n r',b7P r=some ((w,n),r')/\Rd r' 500000/\a0u w/\n<=w.b7.length:=by
 obtain ⟨a,r1,a1,a2,a3,a4⟩:=C7 h (by omega) 3;obtain ⟨v,r2,b1,b2,b3⟩:=a1C a2 (by omega) [0,8,20,35] (by decide) (by decide);obtain ⟨i,hi,hi35⟩:∃i:Nat,v=(i:Int)/\i<=35:=⟨v.toNat,by simp at b3;omega,by simp at b3;omega⟩
 subst hi;obtain ⟨d1,d2⟩:=b41 WI.open (e:=⟨5,a,[]⟩) (a07 (by simp));obtain ⟨x,hx,hq⟩:=a5C (body:=fun s:o6×(List j8)×(List j9)×(List C1)×(List o8)×Int=>b4H s.1 s.2.1 s.2.2.1 s.2.2.2.1 s.2.2.2.2.1 s.2.2.2.2.2)
  (fun k s=>s.2.2.2.2.2=(k:Int)/\k<=35/\Rd s.1 (2+210*(35-k))/\WI ⟨s.2.1,s.2.2.1,s.2.2.2.1,s.2.2.2.2.1⟩)
  (fun x => ∃ (r:o6) (w:m8),x=.brk (r,w.b7,w.d8,w.g7,w.Told)/\Rd r 10000/\WI w) (by
   rintro k ⟨r,ns,nt,aq,tl,i⟩ ⟨q1,q2,q3,q4⟩
   simp only at q1 q3 q4;subst q1;unfold b4H;cases k with
   | zero=>exact ⟨_,rfl,_,⟨ns,nt,aq,tl⟩,rfl,q3.mono (by omega),q4⟩
   | succ k=>
    obtain ⟨e,r3,c1,c2,c3⟩:=d6u q3 (by omega) ⟨ns,nt,aq,tl⟩;obtain ⟨e1,e2⟩:=b41 q4 c3;simp only;rw [show decide (((k+1:Nat):Int)>0)=true by simp,f1C,c1,e9M];simp only;rw [t6 trivial,t6 trivial,t6 trivial,t6 trivial,e1,e9M,b24 (show k<1000 by omega)];exact ⟨_,rfl,k,by omega,rfl,by omega,c2.mono (by omega),e2⟩) (k:=i) (s:=(r2,(M4 a1u ⟨5,a,[]⟩).b7,(M4 a1u ⟨5,a,[]⟩).d8,(M4 a1u ⟨5,a,[]⟩).g7,(M4 a1u ⟨5,a,[]⟩).Told,(i:Int))) ⟨rfl,hi35,b2.mono (by omega),d2⟩
 obtain ⟨r3,w,rfl,c1,c2⟩:=hq;unfold b7P;rw [e0M,e9M,a1,e9M];simp only;rw [d1,e9M,b1,e9M];simp only;rw [hx];simp only [e9M,l8.go];obtain ⟨w1,w2,w3,w4⟩:=c2.ok;have hnl:=c2.nl;have hml:=c2.ml;have htl:=c2.tl;obtain ⟨t,r4,e1,e2,e3,e4⟩:=C7 c1 (by omega) 40;obtain ⟨m,r5,f1,f2,f3⟩:=b9t e2 (by omega);obtain ⟨n,r6,g1,g2,g3⟩:=e5H e2 (by omega);obtain ⟨u,r7,k1,k2,k3,k4⟩:=C7 e2 (by omega) 4;obtain ⟨u2,r8,l1,l2,l3,l4⟩:=C7 k2 (by omega) 8;have o1:C2 (m4 (u-1)):=w8 (by rw [B8 (by omega) (by omega)];omega);have o2:C2 (m4 (u2-1)):=w8 (by rw [B8 (by omega) (by omega)];omega);have z:C2 0:=w8 (by decide);have n3:((w.b7.length:Nat):Int)=3:=by omega
 unfold c0z;simp only [e1,f1,g1,k1,l1,e9M];cases t==0
 ·cases t==1
  ·cases t==2
   ·cases t==3
    ·exact ⟨_,_,_,rfl,e2.mono (by omega),⟨w1,w2,w3,w4⟩,f0q _⟩
    ·simp only [f1C,f1D];rw [t6 (by omega)];refine ⟨_,_,_,rfl,l2.mono (by omega),⟨w1,w2,w3,S9 (by simp;omega) ?_⟩,f0q _⟩;intro x hx;rcases e9P.1 hx with q|q
     ·exact w4.2 x q
     ·rw [e9Z.1 q];exact ⟨o1,⟨z,z⟩,o2,z⟩
   ·obtain ⟨n0,hn0⟩:∃n0,idx w.b7 0=some n0:=⟨_,u6 (k:=0) (by omega)⟩
    simp only [f1C,f1D,hn0,e9M];refine ⟨_,_,_,rfl,g2.mono (by omega),⟨S9 (by simp;omega) ?_,w2,w3,w4⟩,by simp⟩;intro x hx;rcases e99 hx with q|q
    ·exact w1.2 x q
    ·rw [q];exact g3
  ·simp only [f1C,f1D];rw [t6 (by omega)];refine ⟨_,_,_,rfl,f2.mono (by omega),⟨w1,S9 (by simp;omega) ?_,w3,w4⟩,f0q _⟩;intro x hx;rcases e9P.1 hx with q|q
   ·exact w2.2 x q
   ·rw [e9Z.1 q];exact f3
 ·simp only [f1C];rw [t6 (by omega)];exact ⟨_,_,_,rfl,e2.mono (by omega),⟨w1,w2,w3,w4⟩,by simp only;omega⟩
theorem e1B{w:m8}(h:a0u w)(n:Nat):a0u ⟨w.b7.take n,w.d8,w.g7,w.Told⟩:=by
 obtain ⟨w1,w2,w3,w4⟩:=h;refine ⟨⟨?_,fun x hx=>w1.2 x (f0v hx)⟩,w2,w3,w4⟩;have:=w1.1;have hl:(w.b7.take n).length<=w.b7.length:=by rw [f0e];omega
 exact f0c (f0b _ hl) this
theorem e5I{r:o6}(h:Rd r 600000){w:m8}(hw:a0u w){n:Nat}(hn:n<=90):∃l r',b8u r w (n:Int)=some (l,r')/\(∀e∈l,M1 e)/\l.length<=n:=by
 obtain ⟨x,hx,hq⟩:=a5C (body:=fun s:o6×m8×(List w9)×Int=>b7h (n:Int) s.1 s.2.1 s.2.2.1 s.2.2.2)
  (fun k s=>k<=n/\s.2.2.2=((n-k:Nat):Int)/\a0u s.2.1/\(∀e∈s.2.2.1,M1 e)/\s.2.2.1.length=n-k/\Rd s.1 (600000+210*(n-k)))
  (fun x => ∃ (r':o6) (l:List w9),x=.brk (r',l)/\(∀e∈l,M1 e)/\l.length<=n) (by
   rintro k ⟨r1,w,out,i⟩ ⟨hk,hi,hw,he,hl,hr⟩
   simp only at hi hw he hl hr;subst hi;unfold b7h;cases k with
   | zero=>
    simp only;rw [show decide (((n-0:Nat):Int)<(n:Int))=false by simp];exact ⟨_,rfl,_,_,rfl,he,by omega⟩
   | succ k=>
    simp only;rw [show decide (((n-(k+1):Nat):Int)<(n:Int))=true by simp;omega];obtain ⟨e,r2,ee,hr2,hee⟩:=e1X hr (by omega) w;simp only [f1C,ee,e9M];rw [t6 (by omega),c2j hw];have hi:m4 (((n-(k+1):Nat):Int)+1)=((n-k:Nat):Int):=by rw [B8 (by omega) (by omega)];omega
    cases hok:L3 w
    ·simp only [e9M,f1D,l8.go,b74,hi];exact ⟨_,rfl,k,by omega,by omega,rfl,hw,c9n he hee,by simp;omega,hr2.mono (by omega)⟩
    ·obtain ⟨d1,d2⟩:=b41 (a8n.1 hok) hee;simp only [e9M,f1C,d05 hw,d9W,d1,l8.go,b74,hi];exact ⟨_,rfl,k,by omega,by omega,rfl,d2.ok,c9n he hee,by simp;omega,hr2.mono (by omega)⟩) (k:=n) (s:=(r,w,[],0)) ⟨f0q _,by simp,hw,by simp,by simp,by simpa using h⟩
 obtain ⟨r',l,rfl,h1,h2⟩:=hq;unfold b8u;rw [hx];exact ⟨l,r',rfl,h1,h2⟩
theorem e1m{code:List Int}(h:∀x∈code,a4I x):∃w l,b6J code=some (w,l)/\a0u w/\(∀e∈l,M1 e)/\l.length<=14:=by
 obtain ⟨r,a1,a2⟩:=e2P h;obtain ⟨w,n,r1,b1,b2,b3,b4⟩:=e9a a2;obtain ⟨v,r2,c1,c2,c3⟩:=a1C b2 (by omega) [0,3,8,14] (by decide) (by decide);obtain ⟨i,hi,hi14⟩:∃i:Nat,v=(i:Int)/\i<=14:=⟨v.toNat,by simp at c3;omega,by simp at c3;omega⟩
 subst hi;have ht:=e1B b3 n;obtain ⟨l,r3,d1,d2,d3⟩:=e5I (c2.mono (by omega)) ht (n:=i) (by omega);unfold b6J;rw [a1,e9M,b1,e9M,t6 b4,c1,e9M];simp only;rw [d1];exact ⟨_,_,rfl,ht,d2,f0c d3 hi14⟩
theorem c6G{w0:m8}{l:List w9}(hl:l.length<=14)(he:∀e∈l,M1 e):∀(d k:Nat) (w:m8),WI w->l.length-k=d->s2 (fun s:Int×m8=>a5I (w0,l) s.1 s.2) ((k:Int),w)=some (.brk (a06 w (l.drop k)))
 | 0,k,w,h,hd=>by
  rw [e94 (by omega)];refine D7 (body:=fun s:Int×m8=>a5I (w0,l) s.1 s.2) (b:=w) ?_;unfold a5I;simp only;rw [show decide ((k:Int)<(l.length:Int))=false by simp;omega];rfl
 | d+1,k,w,h,hd=>by
  have hlt:k<l.length:=by omega
  have hek:=he _ (e9Q hlt);have hd2:=b7e h hek;rw [F7 (body:=fun s:Int×m8=>a5I (w0,l) s.1 s.2) (t:=(((k+1:Nat):Int),M4 w l[k])) (by
   unfold a5I;simp only;rw [z0 _ k hlt,u6 hlt,f1C,e9M,e54 h hek,e9M,b3O hd2.ok,e9M,a8n.2 hd2,B8 (by omega) (by omega)];rfl),c6G hl he d (k+1) _ hd2 (by omega),e98 hlt]
  rfl
theorem d9Y:a0u noW:=⟨N7,N7,N7,N7⟩
theorem d9h(w:m8)(l:List w9)(k:Nat):a06 (a06 w (l.take k)) (l.drop k)=a06 w l:=by
 unfold a06;rw [<-f1k,f0s]
theorem d4z{code more:List Int}(h:z9 1 a4I code)(h2:z9 1 a4I more):b9S code more=some true:=by
 unfold b9S;cases decide ((code.length:Int)>1048576);case true=>rfl
 cases hm:decide ((more.length:Int)>1048576);case true=>rfl
 have hml:(more.length:Int)<=1048576:=by simpa using hm
 obtain ⟨w,l,a1,a2,a3,a4⟩:=e1m h.2;have hf:∀{l':List w9},l'.length<=14->u5 l':=fun q=>by unfold u5;omega
 have p1:=b9G a2 (hf a4) a3;have p2:=e68 a2 (hf a4) a3;simp only [f1D,a1,e9M,p1,p2,b3O a2,c2j a2];rw [show decide (l.length<=400)=true by simp;omega];cases hw:L3 w
 ·simp only [f1B,f1D,b6z d9Y,e9M,e9S,beq_self_eq_true,e97,f1C];rfl
 ·have hi:=a8n.1 hw;have hp:=c10 hi a3;have hn:m4 ((l.length:Int)+1)=(l.length:Int)+1:=B8 (by omega) (by omega);simp only [e95,f1C,b6z hp.ok,e9M,e9S,f1D,beq_self_eq_true,hn];rw [t6 (by omega),show s2 (fun s:Int×m8=>a5I (w,l) s.1 s.2) (0,w)=_ from c6G a4 a3 l.length 0 w hi (by omega),f0G];simp only [e9M,l8.go];unfold c2J;simp only [b6z hp.ok,e9M,f1C,hn];obtain ⟨t1,t2⟩:=b0c (x:=(more.length:Int)) (n:=(l.length:Int)+1) (by omega) (by omega);generalize e9U (more.length:Int) ((l.length:Int)+1)=k at t1 t2;have nk:0<=k/\k<=(l.length:Int):=⟨t1,by omega⟩
  rw [t6 nk];have e1:(l.drop 0).take (k.toNat-0)=l.take k.toNat:=by rw [f0G,f1y]
  have e2:(l.drop k.toNat).take (l.length-k.toNat)=l.drop k.toNat:=f0k (by rw [List.length_drop];omega);have l1:(l.take k.toNat).length<=14:=by rw [f0e];omega
  have l2:(l.drop k.toNat).length<=14:=by rw [List.length_drop];omega
  have q1:∀e∈l.take k.toNat,M1 e:=fun e q=>a3 e (f0v q)
  have q2:∀e∈l.drop k.toNat,M1 e:=fun e q=>a3 e (f0B q)
  have hp1:=c10 hi q1;rw [e1,e2,b9G a2 (hf l1) q1,hw,decide_eq_true (by omega)];simp only [f1u,f1C,e9M];rw [t6 nk,b9G hp1.ok (hf l2) q2,a8n.2 hp1,decide_eq_true (by omega)];simp only [f1u,f1C,e9M,d9h,b6z hp.ok]
end
end Go.Proofs.YtpkapdcfblhkoaaGreat
