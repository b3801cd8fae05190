/- Abstract values and states of the program, functions of the program and what their calls come to, and what follows from it: part 5 of the text that the law leans on; long names are written short. -/
import Derived.Test.YtjcbjgaapekopaaGreatP4
set_option linter.unusedVariables false
set_option linter.unusedSimpArgs false
set_option linter.unnecessarySimpa false
namespace Go.Proofs.YtjcbjgaapekopaaGreat
open Go
theorem e1T {l:List l9} {r:m9} {n:Nat} {regs:List Int} {i:m5} (hl:E0 l=true) (hr:Way r n) (hn:n≤100) (hc:r.Code=0) (hg:a8d regs) (hi:W6 i=true) (h6:i.b7≠6) :
  ∃ r' regs',a6K l r regs i=some (r',regs')∧Way r' (n+1)∧regs'.length=4∧(r'.Code=0∨r'.Code=1∨r'.Code=2)∧(r'.Code=0→a8d regs'):=by
 have hend : ∀ (regs':List Int) (r':m9),Way r' (n+1)→(r'.Code=0∨r'.Code=1)→regs'.length=4→i.b7≠2→(0≤i.A∧i.A≤3)→(∀ v,idx regs' i.A=some v→inV v→a8d regs') →
   ∃ r2 regs2,a4z i regs' r'.a7 r'.a8 r'.c9 r'.Code=some (r2,regs2)∧Way r2 (n+1)∧regs2.length=4∧(r2.Code=0∨r2.Code=1∨r2.Code=2)∧(r2.Code=0→a8d regs2):=by
  intro regs' r' w1 w2 w3 w4 w5 w6
  obtain ⟨v,v1,v2⟩:=a3O w3 w5
  have hk:(i.b7 != 2)=true:=by simpa using w4
  unfold a4z a8q
  rw [hk,cond_true,v1,Option.bind_some,a6E,Option.bind_some]
  cases hv:p7 v (-1000000) 1000000
  ·simp only [Bool.not_false,cond_true,Option.bind_some,j9.go]
   exact ⟨_,_,rfl,⟨w1.val,w1.reads,w1.puts,w1.rlen,w1.plen⟩,w3,.inr (.inr rfl),fun h=>absurd h (show ¬ (2:Int)=0 from by decide)⟩
  ·simp only [Bool.not_true,cond_false,Option.bind_some,j9.go]
   have hv':inV v:=by simpa [p7,inV] using hv
   refine ⟨_,_,rfl,⟨w1.val,w1.reads,w1.puts,w1.rlen,w1.plen⟩,w3,?_,fun _=>w6 v v1 hv'⟩
   rcases w2 with w2 | w2
   ·exact .inl w2
   ·exact .inr (.inl w2)
 have hset : ∀ (a:Int) (x:Int),(0≤a∧a≤3)→(regs.set a.toNat x).length=4 ∧ ∀ v,idx (regs.set a.toNat x) a=some v→inV v→a8d (regs.set a.toNat x):=by
  intro a x ha
  have hlt:a.toNat<regs.length:=by have:=hg.1; omega
  refine ⟨by simpa using hg.1,fun v hv hin=>⟨by simpa using hg.1,fun w hw => ?_⟩⟩
  rcases e1U hw with hw | rfl
  ·exact hg.2 w hw
  ·unfold idx at hv
   rw [if_pos ha.1,List.getElem?_set_self hlt] at hv
   injection hv with hv
   subst hv
   exact hin
 have hw1:Way r (n+1):=⟨hr.val,hr.reads,hr.puts,Nat.le_succ_of_le hr.rlen,Nat.le_succ_of_le hr.plen⟩
 unfold a6K
 rcases a8F hi with ⟨k,ha,hb⟩ | ⟨k,ha,hb⟩ | ⟨k,ha,hN⟩ | ⟨k,ha,hb⟩ | ⟨k,ha,hb⟩ | ⟨k,_⟩ | ⟨k,ha⟩
 ·obtain ⟨v,r',q1,q2,q3,q4⟩:=d9z hl hr hn hb
  obtain ⟨y,y1,_⟩:=a3O hg.1 ha
  simp only [k,q1,y1,beq_self_eq_true,cond_true,Option.bind_some,j9.go]
  exact hend _ r' q2 (.inl (q3.trans hc)) (hset i.A v ha).1 (by omega) ha (hset i.A v ha).2
 ·obtain ⟨y,y1,y2⟩:=a3O hg.1 hb
  obtain ⟨r',q1,q2,q3⟩:=e44 hr hn ha (hg.2 y y2)
  have e1:((2:Int)==1)=false:=by decide
  simp only [k,e1,y1,q1,beq_self_eq_true,cond_true,cond_false,Option.bind_some,j9.go]
  unfold a4z a8q
  simp only [k,bne_self_eq_false,cond_false,Option.bind_some,j9.go]
  exact ⟨_,_,rfl,⟨q2.val,q2.reads,q2.puts,q2.rlen,q2.plen⟩,hg.1,.inl (q3.trans hc),fun _=>hg⟩
 ·obtain ⟨y,y1,_⟩:=a3O hg.1 ha
  have e1:((3:Int)==1)=false:=by decide
  have e2:((3:Int)==2)=false:=by decide
  simp only [k,e1,e2,y1,beq_self_eq_true,cond_true,cond_false,Option.bind_some,j9.go]
  exact hend _ r hw1 (.inl hc) (hset i.A i.N ha).1 (by omega) ha (hset i.A i.N ha).2
 ·obtain ⟨y,y1,_⟩:=a3O hg.1 ha
  obtain ⟨z,z1,_⟩:=a3O hg.1 hb
  have e1:((4:Int)==1)=false:=by decide
  have e2:((4:Int)==2)=false:=by decide
  have e3:((4:Int)==3)=false:=by decide
  simp only [k,e1,e2,e3,y1,z1,beq_self_eq_true,cond_true,cond_false,Option.bind_some,j9.go]
  exact hend _ r hw1 (.inl hc) (hset i.A _ ha).1 (by omega) ha (hset i.A _ ha).2
 ·obtain ⟨y,y1,_⟩:=a3O hg.1 ha
  obtain ⟨z,z1,_⟩:=a3O hg.1 hb
  have e1:((5:Int)==1)=false:=by decide
  have e2:((5:Int)==2)=false:=by decide
  have e3:((5:Int)==3)=false:=by decide
  have e4:((5:Int)==4)=false:=by decide
  simp only [k,e1,e2,e3,e4,y1,z1,beq_self_eq_true,cond_true,cond_false,Option.bind_some,j9.go]
  exact hend _ r hw1 (.inl hc) (hset i.A _ ha).1 (by omega) ha (hset i.A _ ha).2
 ·exact absurd k h6
 ·have e1:((7:Int)==1)=false:=by decide
  have e2:((7:Int)==2)=false:=by decide
  have e3:((7:Int)==3)=false:=by decide
  have e4:((7:Int)==4)=false:=by decide
  have e5:((7:Int)==5)=false:=by decide
  simp only [k,e1,e2,e3,e4,e5,beq_self_eq_true,cond_true,cond_false,Option.bind_some,j9.go]
  have:=hend regs ⟨r.a7,r.a8,r.c9,1⟩ ⟨hw1.val,hw1.reads,hw1.puts,hw1.rlen,hw1.plen⟩ (.inr rfl) hg.1 (by omega) ⟨by omega,by omega⟩ (fun _ _ _=>hg)
  exact this
structure Ran (r:m9):Prop where
 ok:a0f r=true
 rlen:r.a7.length≤40
 plen:r.a8.length≤40
theorem e8t {r:m9} {n:Nat} (h:Way r n) (hn:n≤40) (hc:r.Code=0∨r.Code=1∨r.Code=2) {v:Int} (hv:r.Code=0→inV v):Ran ⟨r.a7,bif r.Code != 0 then [] else r.a8,bif r.Code != 0 then r.c9 else v,r.Code⟩:=by
 have h1:=h.rlen
 have h2:=h.plen
 have hR:=h.reads
 have hP:=h.puts
 have hP0:a4Z []=true:=rfl
 rcases hc with hc | hc | hc
 ·have hv:=hv hc
  unfold inV at hv
  refine ⟨?_,by simp only; omega,by simp only [hc]; simp; omega⟩
  rw [a9U]
  simp [hc,hR,hP,p7,hv]
 ·refine ⟨?_,by simp only; omega,by simp [hc]⟩
  rw [a9U]
  simp [hc,hR,hP0,p7,h.val]
 ·refine ⟨?_,by simp only; omega,by simp [hc]⟩
  rw [a9U]
  simp [hc,hR,hP0,p7,h.val]
theorem e37 {l:List l9} {prog:List m5} (hl:s8 l) (hp:s8 prog) : ∃ r,a8x l prog=some r∧(E0 l=true→Ran r)∧r.a7.length≤40∧r.a8.length≤40:=by
 unfold a8x
 rw [b8f hl,b5W hp]
 have h0:Ran ⟨[],[],0,3⟩:=⟨by decide,by simp,by simp⟩
 cases hb:E0 l
 ·exact ⟨_,rfl,(fun h=>by cases h),by simp,by simp⟩
 cases hpo:H7 prog
 ·exact ⟨_,rfl,fun _=>h0,by simp,by simp⟩
 simp only [Option.bind_some,Bool.not_true,cond_false]
 rw [u7 (by decide)]
 have hlen:prog.length≤10:=by
  unfold H7 at hpo
  simp only [Bool.and_eq_true,decide_eq_true_eq] at hpo
  exact hpo.1
 have hins : ∀ i∈prog,W6 i=true:=by
  unfold H7 at hpo
  simp only [Bool.and_eq_true] at hpo
  exact List.all_eq_true.1 hpo.2
 obtain ⟨x,hx,hq⟩:=b1C (body:=fun s:(List Int)×(List n5)×(List m8)×Int×Int×Int=>a1V l prog s.1 s.2.1 s.2.2.1 s.2.2.2.1 s.2.2.2.2.1 s.2.2.2.2.2)
  (fun m s => ∃ k:Nat,s.2.2.2.1=(k:Int)∧k≤30∧k+m=31∧Way ⟨s.2.1,s.2.2.1,s.2.2.2.2.1,s.2.2.2.2.2⟩ k∧s.1.length=4∧(s.2.2.2.2.2=0∨s.2.2.2.2.2=1∨s.2.2.2.2.2=2)∧(s.2.2.2.2.2=0→a8d s.1))
  (fun x=>match x with
   | .ret _=>False
   | .brk b=>Way ⟨b.1,b.2.1,b.2.2.2.1,b.2.2.2.2⟩ 30∧b.2.2.1.length=4∧(b.2.2.2.2=0∨b.2.2.2.2=1∨b.2.2.2.2=2)∧(b.2.2.2.2=0→a8d b.2.2.1))
  (by
   rintro m ⟨regs,a7,a8,kk,rVal,rCode⟩ ⟨k,hk,hk30,hm,hway,hreg,hcode,hrok⟩
   simp only at hk hway hreg hcode hrok ⊢
   subst hk
   have hend:Way ⟨a7,a8,rVal,rCode⟩ 30:=⟨hway.val,hway.reads,hway.puts,Nat.le_trans hway.rlen hk30,Nat.le_trans hway.plen hk30⟩
   unfold a1V
   by_cases hlt:k<prog.length
   ·rw [x9 _ k hlt,t9 hlt]
    cases hc:rCode==0
    ·exact ⟨_,rfl,hend,hreg,hcode,hrok⟩
    have hc0:rCode=0:=by simpa using hc
    have hi:=hins _ (List.getElem_mem hlt)
    simp only [cond_true,Option.bind_some]
    cases h6:prog[k].b7==6
    ·obtain ⟨r',regs',q1,q2,q3,q4,q5⟩:=e1T hb hway (by omega) hc0 (hrok hc0) hi (by simpa using h6)
     simp only [cond_false,q1,Option.bind_some]
     rw [u7 (by rw [q3]; exact hreg),D4 (by omega) (by omega)]
     exact ⟨_,rfl,m - 1,by omega,k+1,by simp,by omega,by omega,q2,q3,q4,q5⟩
    ·have h6':prog[k].b7=6:=by simpa using h6
     obtain ⟨_,ha,hbb,hN⟩:prog[k].b7=6∧(0≤prog[k].A∧prog[k].A≤3)∧(0≤prog[k].B∧prog[k].B≤3)∧(1≤prog[k].N∧prog[k].N≤10):=by
      rcases a8F hi with ⟨q,_⟩ | ⟨q,_⟩ | ⟨q,_⟩ | ⟨q,_⟩ | ⟨q,_⟩ | q | ⟨q,_⟩
      ·omega
      ·omega
      ·omega
      ·omega
      ·omega
      ·exact q
      ·omega
     obtain ⟨y,y1,_⟩:=a3O hreg ha
     obtain ⟨z,z1,_⟩:=a3O hreg hbb
     simp only [cond_true,y1,z1,Option.bind_some]
     have hw2 : ∀ j:Nat,k≤j→Way ⟨a7,a8,rVal,rCode⟩ (j+1):=fun j h=>⟨hway.val,hway.reads,hway.puts,Nat.le_trans hway.rlen (by omega),Nat.le_trans hway.plen (by omega)⟩
     unfold b70
     by_cases hyz:y<z
     ·simp only [hyz,decide_true,cond_true,Option.bind_some,j9.go]
      have e1:n8 ((k:Int)+prog[k].N)=((k+prog[k].N.toNat:Nat):Int):=by
       rw [D4 (n:=(k:Int)+prog[k].N) (by omega) (by omega)]
       omega
      rw [e1,D4 (n:=((k+prog[k].N.toNat:Nat):Int)+1) (by omega) (by omega)]
      exact ⟨_,rfl,31 - (k+prog[k].N.toNat+1),by omega,k+prog[k].N.toNat+1,rfl,by omega,by omega,hw2 _ (by omega),hreg,hcode,hrok⟩
     ·simp only [hyz,decide_false,cond_false,Option.bind_some,j9.go]
      rw [D4 (n:=(k:Int)+1) (by omega) (by omega)]
      exact ⟨_,rfl,31 - (k+1),by omega,k+1,rfl,by omega,by omega,hw2 k (by omega),hreg,hcode,hrok⟩
   ·have:decide ((k:Int)<(prog.length:Int))=false:=by simp; omega
    rw [this,cond_false]
    exact ⟨_,rfl,hend,hreg,hcode,hrok⟩) (k:=31) (s:=(List.replicate (4:Int).toNat 0,[],[],0,0,0)) ⟨0,rfl,by omega,by omega,⟨rfl,rfl,rfl,by simp,by simp⟩,rfl,.inl rfl,fun _=>⟨rfl,by simp [inV]⟩⟩
 rw [hx,Option.bind_some]
 cases x with
 | ret r=>cases hq
 | brk b =>
  obtain ⟨a7,a8,regs,rVal,rCode⟩:=b
  obtain ⟨q1,q2,q3,q4⟩:=hq
  simp only at q1 q2 q3 q4
  simp only [j9.go]
  unfold a7q
  obtain ⟨v,v1,v2⟩:=a3O q2 (a:=0) ⟨by omega,by omega⟩
  have hran:=e8t q1 (by omega) q3 (v:=v) (fun h=>(q4 h).2 v v2)
  have q1r:=q1.rlen
  have q1p:=q1.plen
  simp only at hran q1r q1p
  cases hc:rCode != 0
  ·rw [hc] at hran
   simp only [cond_false,v1,Option.bind_some] at hran ⊢
   exact ⟨_,rfl,fun _=>hran,by simp only; omega,by simp only; omega⟩
  ·rw [hc] at hran
   simp only [cond_true] at hran ⊢
   exact ⟨_,rfl,fun _=>hran,by simp only; omega,by simp⟩
theorem e8m {r:n4} {m:Nat} (h:Rd r m) (hm:m≤100000000) : ∃ i r',a9T r=some (i,r')∧Rd r' (m+10):=by
 obtain ⟨k,r1,a1,a2,a3⟩:=a7x h (by omega) [1,1,2,2,3,4,4,5,6,7] (by decide) (by decide)
 obtain ⟨p1,r2,b1,b2,b3,b4⟩:=E4 a2 (by omega) 3
 obtain ⟨p2,r3,c1,c2,c3,c4⟩:=E4 b2 (by omega) 3
 unfold a9T
 simp only [a1,b1,c1,Option.bind_some]
 cases h3:k==3
 ·cases h6:k==6
  ·cases h7:k==7
   ·exact ⟨_,_,rfl,c2.mono (by omega)⟩
   ·obtain ⟨p3,r4,d1,d2,d3,d4⟩:=E4 c2 (by omega) 3
    simp only [cond_true,cond_false,d1,Option.bind_some]
    cases decide (p3>0)
    ·exact ⟨_,_,rfl,d2.mono (by omega)⟩
    ·obtain ⟨p4,r5,e1,e2,e3,e4⟩:=E4 d2 (by omega) 4
     obtain ⟨p5,r6,f1,f2,f3,f4⟩:=E4 e2 (by omega) 4
     simp only [cond_true,e1,f1,Option.bind_some]
     exact ⟨_,_,rfl,f2.mono (by omega)⟩
  ·obtain ⟨p3,r4,d1,d2,d3,d4⟩:=E4 c2 (by omega) 3
   simp only [cond_true,cond_false,d1,Option.bind_some]
   exact ⟨_,_,rfl,d2.mono (by omega)⟩
 ·obtain ⟨n1,r4,d1,d2,d3⟩:=a7x c2 (by omega) [0,1,5,(-2),100,1000000] (by decide) (by decide)
  simp only [cond_true,d1,Option.bind_some]
  exact ⟨_,_,rfl,d2.mono (by omega)⟩
theorem c2Y {r:n4} {m:Nat} (h:Rd r m) (hm:m≤50000000) : ∃ p r',a3p r=some (p,r')∧Rd r' (m+200)∧p.length≤10:=by
 obtain ⟨v,r1,a1,a2,a3,a4⟩:=E4 h (by omega) 3
 unfold a3p
 simp only [a1,Option.bind_some]
 cases v==0
 ·obtain ⟨k,r2,b1,b2,b3,b4⟩:=E4 a2 (by omega) 8
  simp only [cond_false,b1,Option.bind_some]
  obtain ⟨x,hx,hq⟩:=b1C (body:=fun s:n4×(List m5)×Int=>a9q s.1 s.2.1 s.2.2)
   (fun j s=>s.2.2=(j:Int)∧j≤8∧Rd s.1 (m+2+10 * (8 - j))∧s.2.1.length+j≤8)
   (fun x=>match x with
    | .ret _=>False
    | .brk b=>Rd b.1 (m+200)∧b.2.length≤10)
   (by
    rintro j ⟨r,out,i⟩ ⟨q1,q2,q3,q4⟩
    simp only at q1 q3 q4 ⊢
    subst q1
    unfold a9q
    cases j with
    | zero=>exact ⟨_,rfl,q3.mono (by omega),by simp only; omega⟩
    | succ j =>
     obtain ⟨i,r',d1,d2⟩:=e8m q3 (by omega)
     have hpos:decide (((j+1:Nat):Int)>0)=true:=by simp
     have n1:(out.length+1) * 32≤140737488355328:=by omega
     rw [hpos,cond_true,d1,Option.bind_some,u7 n1,D4 (by omega) (by omega)]
     exact ⟨_,rfl,j,by omega,by simp only; omega,by omega,d2.mono (by omega),by simp; omega⟩) (k:=k.toNat) (s:=(r2,[],k)) ⟨by simp only; omega,by omega,b2.mono (by omega),by simp; omega⟩
  rw [hx,Option.bind_some]
  cases x with
  | ret r=>cases hq
  | brk b=>exact ⟨_,_,rfl,hq.1,hq.2⟩
 ·obtain ⟨p1,r2,b1,b2,b3,b4⟩:=E4 a2 (by omega) 3
  obtain ⟨p2,r3,c1,c2,c3,c4⟩:=E4 b2 (by omega) 3
  obtain ⟨p3,r4,d1,d2,d3,d4⟩:=E4 c2 (by omega) 3
  simp only [cond_true,b1,c1,d1,Option.bind_some]
  exact ⟨_,_,rfl,d2.mono (by omega),by simp⟩
def e2Y (e:l7):Prop:=e.a9.a7.length≤40∧e.a9.a8.length≤40
def drawn (l:List l7):Prop:=l.length≤41 ∧ ∀ e∈l,e2Y e
theorem e5i {l:List l7} (h:B9 88 a2o l):b7j l=some (bif I9 l then (q8 l).1 else ⟨0,[],[]⟩):=by
 unfold b7j
 rw [c0r h,Option.bind_some]
 cases hok:I9 l
 ·rfl
 ·obtain ⟨hl,he⟩:=a2j hok
  rw [Bool.not_true,cond_false,c1x h hl he]
  rfl
theorem c9M {l:List l7} (h:B9 88 a2o l) (hok:I9 l=true):b1K l=some (q8 l).1:=by
 obtain ⟨hl,he⟩:=a2j hok
 have hf:s8 l:=h.fits (by decide)
 unfold b1K
 rw [b8V,Option.bind_some,show (40:Int)=((40:Nat):Int) from rfl,b4g,decide_eq_true hl,Bool.not_true,cond_false]
 have hloop:=a1j (body:=fun s:(List l9)×Int×Int×List n3=>b1s l s.1 s.2.1 s.2.2.1 s.2.2.2) (fun k=>((q8 (l.take k)).1.d7,(k:Int),(q8 (l.take k)).1.At,(q8 (l.take k)).1.f0)) l.length (by
  intro k hk
  obtain ⟨h1,h2,h3⟩:=a1q hl he k (by omega)
  have hek:=List.all_eq_true.1 he _ (List.getElem_mem hk)
  have hfk:=h.2 _ (List.getElem_mem hk)
  rw [a4n hk]
  unfold b1s
  rw [x9 _ k hk,t9 hk,J2 hf hk]
  simp only [cond_true,Option.bind_some,a4D hfk,hek,Bool.not_true,cond_false]
  rw [show (⟨(q8 (l.take k)).1.At,(q8 (l.take k)).1.d7,(q8 (l.take k)).1.f0⟩:o9)=(q8 (l.take k)).1 from rfl,b8R h1 (by omega) hek hfk,Option.bind_some]
  rfl)
 rw [List.take_zero,List.take_length] at hloop
 rw [show ((0:Nat):Int)=0 from rfl] at hloop
 rw [show q7 (fun s:(List l9)×Int×Int×List n3=>b1s l s.1 s.2.1 s.2.2.1 s.2.2.2) (U0.d7,0,U0.At,U0.f0)=_ from hloop,G5 (b:=((q8 l).1.d7,(q8 l).1.At,(q8 l).1.f0))]
 ·rfl
 ·unfold b1s
  rw [B0]; rfl
theorem e3p {r:m9} (h:a0f r=true):a4Z r.a8=true:=by
 rw [a9U] at h
 simp only [Bool.and_eq_true] at h
 exact h.2.2.2.2.2
theorem d4l {l:List l7} (hl:l.length≤40) (he:l.all A6=true) {k:Nat} (hk:k<l.length):(q8 l).2[k]?=some (apply (q8 (l.take k)).1 l[k]).2:=by
 have key : ∀ n,k<n→n≤l.length→(q8 (l.take n)).2[k]?=some (apply (q8 (l.take k)).1 l[k]).2:=by
  intro n
  induction n with
  | zero=>intro h; omega
  | succ n ih =>
   intro h1 h2
   have hlen:=(a1q hl he n (by omega)).2.1
   rw [a4n (show n<l.length by omega)]
   unfold a9d
   by_cases hq:k=n
   ·subst hq
    simp only
    rw [List.getElem?_append_right (by omega),hlen,Nat.sub_self]
    rfl
   ·simp only
    rw [List.getElem?_append_left (by omega)]
    exact ih (by omega) (by omega)
 have:=key l.length hk (Nat.le_refl _)
 rwa [List.take_length] at this
def cnt (cs:List Int) (c:Int):Int:=((cs.filter fun x=>x==c).length:Int)
theorem e1w (cs:List Int) (c d:Int):cnt (cs++[c]) d=cnt cs d+(if c=d then 1 else 0):=by
 unfold cnt
 rw [List.filter_append]
 by_cases h:c=d<;>simp [h]
theorem c8Y (cs:List Int) (c:Int):0≤cnt cs c∧cnt cs c≤cs.length:=by
 unfold cnt
 have:=List.length_filter_le (fun x=>x==c) cs
 omega
def b22 (l:List l7) (cs:List Int) (k:Nat):List n9:=match cs[k]?,l[k]? with
 | some c,some e=>bif c==0 then [e.a5] else []
 | _,_=>[]
def u9 (l:List l7) (cs:List Int):Nat→List n9
 | 0=>[]
 | k+1=>u9 l cs k++b22 l cs k
theorem b5r {l:List l7} {cs:List Int} {k:Nat} (h1:k<l.length) (h2:k<cs.length):b22 l cs k=bif cs[k]==0 then [l[k].a5] else []:=by
 unfold b22
 rw [List.getElem?_eq_getElem h1,List.getElem?_eq_getElem h2]
theorem c5f {l:List l7} {cs:List Int} (hc:cs.length=l.length) : ∀ k,k≤l.length→((u9 l cs k).length:Int)=cnt (cs.take k) 0
 | 0,_=>rfl
 | k+1,hk=>by
  have h1:k<cs.length:=by omega
  have ih:=c5f hc k (by omega)
  unfold u9
  rw [List.take_succ_eq_append_getElem h1,e1w,b5r (show k<l.length by omega) h1,← ih]
  by_cases hq:cs[k]=0
  ·simp [hq]
  ·have hq':(cs[k]==0)=false:=by simpa using hq
   simp [hq,hq']
def z8 (l:List l7):List n9:=bif I9 l then u9 l (q8 l).2 l.length else []
theorem d8V {l:List n9} (h:l.length * 16≤140737488351232):b7U l=some l:=by
 unfold b7U t5
 cases l with
 | nil=>rfl
 | cons x l =>
  have h1:(((x::l).length:Int)==0)=false:=by simp; omega
  rw [h1,cond_false,if_pos (by constructor<;>omega),if_pos (by simp)]
theorem e3Z {l:List l7} (h:B9 88 a2o l):b75 l=some (z8 l):=by
 unfold b75 z8
 rw [c0r h,Option.bind_some]
 cases hok:I9 l
 ·rfl
 have hf:s8 l:=h.fits (by decide)
 obtain ⟨hl,he⟩:=a2j hok
 obtain ⟨_,hlen,hc⟩:=a1q hl he l.length (Nat.le_refl _)
 rw [List.take_length] at hlen hc
 rw [Bool.not_true,cond_false,cond_true,c1x h hl he,Option.bind_some]
 have hsm : ∀ k,k≤l.length→(u9 l (q8 l).2 k).length≤40:=by
  intro k hk
  have h1:=c5f hlen k hk
  have h2:=c8Y ((q8 l).2.take k) 0
  rw [List.length_take] at h2
  omega
 have hloop:=a1j (body:=fun s:(List n9)×Int=>a9G l (q8 l) s.1 s.2) (fun k=>(u9 l (q8 l).2 k,(k:Int))) l.length (by
  intro k hk
  have hk2:k<(q8 l).2.length:=by omega
  have hs:=hsm k (by omega)
  have n1:((u9 l (q8 l).2 k).length+1) * 16≤140737488355328:=by omega
  show a9G l (q8 l) (u9 l (q8 l).2 k) (k:Int)=some (.nxt (u9 l (q8 l).2 k++b22 l (q8 l).2 k,((k+1:Nat):Int)))
  rw [b5r hk hk2]
  unfold a9G b9T
  rw [x9 _ k hk,t9 hk,t9 hk2,J2 hf hk]
  simp only [cond_true,Option.bind_some,u7 n1]
  cases (q8 l).2[k]==0
  ·simp only [cond_false,Option.bind_some,j9.go,List.append_nil]
  ·rfl)
 rw [show u9 l (q8 l).2 0=[] from rfl,show ((0:Nat):Int)=0 from rfl] at hloop
 rw [hloop,G5 (b:=u9 l (q8 l).2 l.length)]
 ·simp only [Option.bind_some,j9.go]
  unfold c3B
  rw [d8V (by have:=hsm l.length (Nat.le_refl _); omega)]
  rfl
 ·unfold a9G
  rw [B0]; rfl
theorem a6V {ps:List m8} (h:ps.Pairwise fun p q=>p.d9≠q.d9) (b:Int):(ps.filter fun p=>p.d9==b).length≤1:=by
 have h2:=h.filter (fun p=>p.d9==b)
 cases hq:ps.filter fun p=>p.d9==b with
 | nil=>simp
 | cons x r =>
  cases r with
  | nil=>simp
  | cons y r =>
   rw [hq] at h2
   have hne:=(List.pairwise_cons.1 h2).1 y (by simp)
   have hx:x∈ps.filter fun p=>p.d9==b:=by rw [hq]; simp
   have hy:y∈ps.filter fun p=>p.d9==b:=by rw [hq]; simp
   have hx:=(List.mem_filter.1 hx).2
   have hy:=(List.mem_filter.1 hy).2
   simp only [beq_iff_eq] at hx hy
   omega
theorem b9u : ∀ {ps:List m8},(∀ p∈ps,a3J p)→ps.length=(ps.filter fun p=>p.d9==0).length+(ps.filter fun p=>p.d9==1).length+(ps.filter fun p=>p.d9==2).length+(ps.filter fun p=>p.d9==3).length
 | [],_=>rfl
 | p::ps,h=>by
  have ih:=b9u (ps:=ps) fun x hx=>h x (by simp [hx])
  have hp:=h p (by simp)
  have:p.d9=0∨p.d9=1∨p.d9=2∨p.d9=3:=by
   have:=hp.1
   have:=hp.2.1
   omega
  simp only [List.filter_cons,List.length_cons]
  rcases this with q | q | q | q<;>simp [q]<;>omega
theorem e4s {r:m9} (h:a0f r=true):r.a8.length≤4:=by
 have h1:=(b1M.1 (e3p h))
 have h2:=b9u h1.1
 have a:=a6V h1.2 0
 have b:=a6V h1.2 1
 have c:=a6V h1.2 2
 have d:=a6V h1.2 3
 omega
theorem okEntries.s {l:List l7} (h:B9 88 H2 l):B9 88 a2o l:=h.imp fun _ x=>x.f
theorem a4J (c x:Bool):(bif c then some x else some false)=some (c&&x):=by cases c<;>rfl
theorem b27 (c x:Bool):(bif c then some false else some x)=some (!c&&x):=by cases c<;>rfl
theorem d8c (n lo hi:Int):p7 n lo hi=(!decide (n<lo) && !decide (n>hi)):=by
 unfold p7
 by_cases h1:n<lo<;>by_cases h2:n>hi<;>simp [h1,h2]<;>omega
theorem rng {α:Type} (n lo hi:Int) (X Y:α):(bif decide (n<lo) then Y else bif decide (n>hi) then Y else X)=bif p7 n lo hi then X else Y:=by
 rw [d8c]
 cases decide (n<lo)<;>cases decide (n>hi)<;>rfl
theorem c5v {α:Type} (n lo:Int) (X Y:α):(bif decide (n<lo) then Y else bif decide (n≥3) then Y else X)=bif p7 n lo 2 then X else Y:=by
 have e:decide (n≥3)=decide (n>2):=by
  by_cases h:n>2
  ·rw [decide_eq_true h,decide_eq_true (by omega)]
  ·rw [decide_eq_false h,decide_eq_false (by omega)]
 rw [← rng,e]
theorem a5N (a b:Int):(!decide (a>b))=decide (a≤b):=by
 by_cases h:a≤b
 ·simp [h]
 ·simp [h]; omega
theorem d1v {α:Type} (l:List α):decide ((l.length:Int)>0) = !((l.length:Int)==0):=by
 by_cases hp:l.length=0
 ·rw [decide_eq_false (by omega),show ((l.length:Int)==0)=true from by rw [hp]; rfl]; rfl
 ·rw [decide_eq_true (by omega),show ((l.length:Int)==0)=false from by rw [← Bool.not_eq_true,beq_iff_eq]; omega]; rfl
theorem b2N {α:Type} [BEq α] (a b:α):(!(a != b))=(a==b):=by simp [bne]
abbrev zE:l7:=⟨false,⟨0,0⟩,⟨[],[],0,0⟩⟩
def a05 (a b:l7):Bool:=(a.g8==b.g8)&&((([a.a5.b9,a.a5.Seq]:List Int)==[b.a5.b9,b.a5.Seq])&&a5q a.a9 b.a9)
theorem b5O {a b:l7} (h:H2 a):a5f a b=some (a05 a b):=by
 unfold a5f a05
 simp only [d1m h.f.2,Option.bind_some,a4J]
theorem c3b {e:l7} (h:H2 e):a5K e=some (a05 e zE):=by
 unfold a5K a05
 simp only [c0i h.f.2,Option.bind_some,a4J]
 cases e.g8<;>rfl
theorem a9N (n:Int):a2a n=some (p7 n 1 3000):=Z2 n 1 3000
def a1G (v:m6):Bool:=bif v.b5==0 then a05 v.i0 zE else p7 v.b5 1 3000&&A6 v.i0
theorem d7b {v:m6} (h:a0F v):b8a v=some (a1G v):=by
 unfold b8a a1G
 simp only [b5O h.2,Z2,a7D h.2.f,Option.bind_some,a4J]
 cases v.b5==0<;>rfl
theorem e2K {v:m6} (h:a0F v):b4P v=some (a1G v):=by
 unfold b4P a1G a05
 simp only [c0i h.2.f.2,a9N,a4D h.2.f,Option.bind_some,a4J]
 cases v.b5==0<;>cases v.i0.g8<;>rfl
def R8 (l:List m6):Bool:=decide (l.length≤40)&&l.all a1G
theorem c5G {l:List m6} (h:B9 96 a0F l):a6g l=some (R8 l):=by
 unfold a6g R8
 rw [show (40:Int)=((40:Nat):Int) from rfl,b4g,U3 l (h.fits (by decide)) a1G false ()]
 ·cases decide (l.length≤40)
  ·rfl
  ·cases l.all a1G<;>rfl
 ·intro k hk
  unfold b7b
  rw [x9 _ k hk,t9 hk]
  simp only [cond_true,Option.bind_some,e2K (h.2 _ (List.getElem_mem hk))]
  cases a1G l[k]<;>rfl
 ·unfold b7b
  rw [B0]; rfl
theorem b9i {l:List m6} (h:B9 96 a0F l):b0Z l=some (R8 l):=by
 unfold b0Z R8 c1R
 rw [show (40:Int)=((40:Nat):Int) from rfl,c47,U3 l (h.fits (by decide)) a1G false ()]
 ·cases l.all a1G<;>cases decide (l.length≤40)<;>rfl
 ·intro k hk
  unfold b6Q
  rw [x9 _ k hk,t9 hk]
  simp only [cond_true,Option.bind_some,d7b (h.2 _ (List.getElem_mem hk))]
  cases a1G l[k]<;>rfl
 ·unfold b6Q
  rw [B0]; rfl
def a1W (a:A4):Bool:=p7 a.g7 0 3000&&(R8 a.a0&&a.a0.all fun v => !decide (v.b5>a.g7))
theorem e6T {a:A4} (h:c0s a):b5m a=some (a1W a):=by
 unfold b5m a1W
 rw [rng,c5G h.2,U3 a.a0 (h.2.fits (by decide)) (fun v => !decide (v.b5>a.g7)) false ()]
 ·simp only [Option.bind_some]
  cases p7 a.g7 0 3000<;>cases R8 a.a0<;>cases a.a0.all (fun v => !decide (v.b5>a.g7))<;>rfl
 ·intro k hk
  unfold b5G
  rw [x9 _ k hk,t9 hk]
  simp only [cond_true,Option.bind_some]
  cases decide (a.a0[k].b5>a.g7)<;>rfl
 ·unfold b5G
  rw [B0]; rfl
theorem d7z {a:A4} (h:c0s a):b7q a=some (a1W a):=by
 unfold b7q a1W
 rw [U3 a.a0 (h.2.fits (by decide)) (fun v => !decide (v.b5>a.g7)) false ()]
 ·unfold c4m
  simp only [Z2,b9i h.2,Option.bind_some]
  cases p7 a.g7 0 3000<;>cases R8 a.a0<;>cases a.a0.all (fun v => !decide (v.b5>a.g7))<;>rfl
 ·intro k hk
  unfold b5Y
  rw [x9 _ k hk,t9 hk]
  simp only [cond_true,Option.bind_some]
  cases decide (a.a0[k].b5>a.g7)<;>rfl
 ·unfold b5Y
  rw [B0]; rfl
theorem d7c (i:m5):b5a i=some (W6 i):=by
 unfold b5a W6 a36 b6X
 simp only [Z2,Option.bind_some]
 cases i.b7==1<;>cases i.b7==2<;>cases i.b7==3<;>cases i.b7==4<;>cases i.b7==5<;>cases i.b7==6<;>cases i.b7==7<;>cases p7 i.A 0 3<;>cases p7 i.B 0 3<;>cases i.A==0<;>cases i.B==0<;>rfl
theorem c0Q {l:List m5} (h:s8 l):b0q l=some (H7 l):=by
 unfold b0q H7 c22
 rw [show (10:Int)=((10:Nat):Int) from rfl,c47,U3 l h W6 false ()]
 ·cases l.all W6<;>cases decide (l.length≤10)<;>rfl
 ·intro k hk
  unfold b5H
  rw [x9 _ k hk,t9 hk]
  simp only [cond_true,Option.bind_some,d7c]
  cases W6 l[k]<;>rfl
 ·unfold b5H
  rw [B0]; rfl
def a1T (b:Int):Int:=bif p7 b 1 3000 then Int.tmod b 3 else -1
theorem d8o (b:Int):a87 b=some (a1T b):=by
 unfold a87 a1T
 rw [a9N,Option.bind_some]
 cases p7 b 1 3000<;>rfl
theorem e1d (b:Int):b7N b=some (a1T b):=by
 unfold b7N a1T
 rw [Z2,Option.bind_some]
 cases p7 b 1 3000<;>rfl
def b6L (l:List Bool) (id:Int):Bool:=(idx l id).getD false
def a5k (l:List Bool) (id:Int):Bool:=((l.length:Int)==3)&&b6L l id
theorem c7L {l:List Bool} {id:Int} (h:p7 id 0 2=true) (hl:((l.length:Int)==3)=true):idx l id=some (b6L l id):=by
 unfold p7 at h
 simp only [decide_eq_true_eq] at h
 simp only [beq_iff_eq] at hl
 unfold b6L idx
 rw [if_pos h.1,List.getElem?_eq_getElem (by omega)]
 rfl
theorem e1q {l:List Bool} {id:Int} (h:p7 id 0 2=true) (x:Bool):(bif ((l.length:Int)==3) then (idx l id).bind fun y=>some (y&&x) else some false)=some (a5k l id&&x):=by
 unfold a5k
 cases hl:((l.length:Int)==3)
 ·rfl
 ·rw [c7L h hl]
  rfl
theorem d7f {l:List Bool} {id:Int} (h:p7 id 0 2=true):b3O l id=some (a5k l id):=by
 unfold b3O a5k
 cases hl:((l.length:Int)==3)
 ·rfl
 ·rw [c7L h hl]
  rfl
def a41 (n:j3):Bool:=a05 n.d6 zE&&((n.a0.length:Int)==0)
def a2d (n:j3):Bool :=
  bif n.d8==0 then (n.b5==0)&&(((n.b6.length:Int)==0)&&(((n.i5.length:Int)==0)&&a41 n)) else
  (a1T n.b5==n.Id)&&(decide (n.b5≤n.Acc.g7)&&(R8 n.i5 &&
    (bif n.d8==1 then a5k n.b6 n.Id&&a41 n else
     bif n.d8==2 then ((n.b6.length:Int)==0)&&a41 n else
     bif n.d8==3 then ((n.b6.length:Int)==0)&&(A6 n.d6&&(a5k n.a0 n.Id&&decide ((n.a6.length:Int)<40))) else false)))
theorem c9I {n:j3} (h:p7 n.Id 0 2=true) (ho:(a1T n.b5==n.Id)=true):p7 n.b5 1 3000=true:=by
 cases hb:p7 n.b5 1 3000
 ·unfold a1T at ho
  rw [hb] at ho
  unfold p7 at h
  simp only [decide_eq_true_eq,cond_false,beq_iff_eq] at h ho
  omega
 ·rfl
theorem d9N {n:j3} (h:a0G n) (hId:p7 n.Id 0 2=true):b3B n=some (a2d n):=by
 have hj:b3B n=b7H n (a41 n):=by
  unfold b3B a41
  simp only [b5O h.2.2.2.2.2.2.2.2.1,Option.bind_some]
  cases a05 n.d6 zE<;>rfl
 rw [hj]
 unfold b7H a2d
 simp only [e1d,b9i h.2.2.2.2.2.2.2.1,d7f hId,a7D h.2.2.2.2.2.2.2.2.1.f,Option.bind_some,a4J]
 cases n.d8==0
 ·simp only [cond_false]
  cases n.d8==1<;>cases n.d8==2<;>cases n.d8==3<;>simp only [cond_true,cond_false,b27,b2N,a5N,Bool.not_not]<;>(cases a1T n.b5==n.Id<;>cases decide (n.b5≤n.Acc.g7)<;>cases R8 n.i5<;>rfl)
 ·rfl
theorem e3x {n:j3} (h:a0G n) (hId:p7 n.Id 0 2=true):b7x n=some (a2d n):=by
 unfold b7x a2d
 simp only [d8o,a9N,c3b h.2.2.2.2.2.2.2.2.1,c5G h.2.2.2.2.2.2.2.1,a4D h.2.2.2.2.2.2.2.2.1.f,Option.bind_some,a4J,b27,e1q hId,b2N,a5N,Bool.not_not]
 have hb:=c9I (n:=n) hId
 cases h0:n.d8==0
 ·cases h1:n.d8==1
  ·cases h2:n.d8==2
   ·cases h3:n.d8==3
    ·simp only [cond_false,Bool.and_false]
    ·simp only [cond_false,cond_true,b27,b2N,a5N,Bool.not_not]
     cases ho:a1T n.b5==n.Id
     ·simp
     ·rw [hb ho]
      cases decide (n.b5≤n.Acc.g7)<;>cases R8 n.i5<;>cases ((n.b6.length:Int)==0)<;>rfl
   ·simp only [cond_false,cond_true,b27,b2N,a5N,Bool.not_not]
    cases ho:a1T n.b5==n.Id
    ·simp
    ·rw [hb ho]
     unfold a41
     cases decide (n.b5≤n.Acc.g7)<;>cases R8 n.i5<;>cases ((n.b6.length:Int)==0)<;>rfl
  ·simp only [cond_false,cond_true,b27,b2N,a5N,Bool.not_not]
   cases ho:a1T n.b5==n.Id
   ·simp
   ·rw [hb ho]
    unfold a41
    cases decide (n.b5≤n.Acc.g7)<;>cases R8 n.i5<;>cases a5k n.b6 n.Id<;>rfl
 ·unfold a41
  simp only [cond_true]
def a44 (n:j3):Bool :=
 bif n.i7 then H7 n.i4&&(A6 n.c8&&(!n.c8.g8&&(([n.c8.a5.b9,n.c8.a5.Seq]:List Int)==[n.Id,n.Seq]))) else ((n.i4.length:Int)==0)&&a05 n.c8 zE
theorem d8g {n:j3} (h:a0G n):b6d n=some (a44 n):=by
 unfold b6d a44
 have hw:=h.2.2.2.2.2.2.2.2.2.2.2.1
 simp only [c3b hw,b5W (h.2.2.2.2.2.2.2.2.2.2.1.fits (by decide)),a4D hw.f,Option.bind_some,a4J]
 cases n.i7<;>rfl
def b5j (l:List l7):Bool:=l.all fun e=>A6 e && !e.g8
def I1 (n:j3):Bool:=p7 n.Id 0 2&&(a1W n.Acc&&(I9 n.a6&&(p7 n.Seq 0 1000&&(decide ((n.b8.length:Int)≤4)&&(a2d n&&(a44 n&&b5j n.b8))))))
theorem b0f {n:j3} (h:a0G n):a5B n=some (I1 n):=by
 unfold a5B I1
 rw [c5v]
 cases hId:p7 n.Id 0 2
 ·rfl
 ·rw [rng,e6T h.2.1,d0V (okEntries.s h.2.2.1),e3x h hId,d8g h,U3 n.b8 (h.2.2.2.2.2.2.2.2.2.2.2.2.fits (by decide)) (fun e=>A6 e && !e.g8) false ()]
  ·unfold b5j c5c
   rw [← a5N]
   simp only [Option.bind_some,cond_true]
   cases a1W n.Acc<;>cases I9 n.a6<;>cases p7 n.Seq 0 1000<;>cases decide ((n.b8.length:Int)>4)<;>cases a2d n<;>cases a44 n<;>cases n.b8.all (fun e=>A6 e && !e.g8)<;>rfl
  ·intro k hk
   unfold b4N
   rw [x9 _ k hk,t9 hk]
   simp only [cond_true,Option.bind_some,a4D ((h.2.2.2.2.2.2.2.2.2.2.2.2).2 _ (List.getElem_mem hk)).f]
   cases A6 n.b8[k]<;>cases n.b8[k].g8<;>rfl
  ·unfold b4N
   rw [B0]; rfl
theorem e05 {n:j3} (h:a0G n):b82 n=some (I1 n):=by
 unfold b82 I1
 rw [Z2,Option.bind_some]
 cases hId:p7 n.Id 0 2
 ·rfl
 ·have hw:=h.2.2.2.2.2.2.2.2.2.2.2.1
  have hk3:b8w n=some (a44 n&&a2d n):=by
   unfold b8w c5y a44
   simp only [c0Q (h.2.2.2.2.2.2.2.2.2.2.1.fits (by decide)),a7D hw.f,b5O hw,d9N h hId,Option.bind_some]
   cases n.i7
   ·rw [d1v]
    cases ((n.i4.length:Int)==0)<;>cases a05 n.c8 zE<;>rfl
   ·cases H7 n.i4<;>cases A6 n.c8<;>cases n.c8.g8<;>cases (([n.c8.a5.b9,n.c8.a5.Seq]:List Int)==[n.Id,n.Seq])<;>rfl
  rw [d7z h.2.1,c0r (okEntries.s h.2.2.1),Z2,hk3,U3 n.b8 (h.2.2.2.2.2.2.2.2.2.2.2.2.fits (by decide)) (fun e=>A6 e && !e.g8) false ()]
  ·unfold b5j
   rw [← a5N]
   simp only [Option.bind_some,Bool.not_true,cond_false]
   cases a1W n.Acc<;>cases I9 n.a6<;>cases p7 n.Seq 0 1000<;>cases decide ((n.b8.length:Int)>4)<;>cases a2d n<;>cases a44 n<;>cases n.b8.all (fun e=>A6 e && !e.g8)<;>rfl
  ·intro k hk
   unfold b6o
   rw [x9 _ k hk,t9 hk]
   simp only [cond_true,Option.bind_some,a7D ((h.2.2.2.2.2.2.2.2.2.2.2.2).2 _ (List.getElem_mem hk)).f]
   cases A6 n.b8[k]<;>cases n.b8[k].g8<;>rfl
  ·unfold b6o
   rw [B0]; rfl
def a7c (m:j7):Bool :=
 let bal:=p7 m.b5 1 3000
 let non:=a05 m.i0 zE
 let nv:=(m.a0.length:Int)==0
 bif m.b7==1 then bal&&(non&&nv) else
 bif m.b7==4 then bal&&(non&&nv) else
 bif m.b7==2 then bal&&(non&&(R8 m.a0&&decide (n8 (m.g9+(m.a0.length:Int))≤40))) else
 bif m.b7==3 then bal&&(decide (m.g9<40)&&(A6 m.i0&&nv)) else
 bif m.b7==5 then (m.b5==0)&&(decide (m.g9<40)&&(A6 m.i0&&nv)) else
 bif m.b7==6 then bal&&((m.g9==0)&&(non&&nv)) else
 bif m.b7==7 then (m.b5==0)&&((m.g9==0)&&(A6 m.i0&&(!m.i0.g8&&nv))) else
 bif m.b7==8 then (m.b5==0)&&(non&&nv) else false
def a0i (m:j7):Bool:=p7 m.b6 0 2&&(p7 m.To 0 2&&(!(m.b6==m.To)&&(p7 m.g9 0 40&&a7c m)))
theorem e1R {m:j7} (h:a3f m):b5I m=some (a0i m):=by
 unfold b5I a0i a7c
 have he:=h.2.2.2.2.2.1
 simp only [Z2,b5O he,a7D he.f,b9i h.2.2.2.2.2.2,Option.bind_some,a4J]
 cases p7 m.b6 0 2
 ·rfl
 cases p7 m.To 0 2
 ·rfl
 cases m.b6==m.To
 case true=>rfl
 cases p7 m.g9 0 40
 ·rfl
 cases m.b7==1<;>cases m.b7==4<;>cases m.b7==2<;>cases m.b7==3<;>cases m.b7==5<;>cases m.b7==6<;>cases m.b7==7<;>cases m.b7==8<;>rfl
theorem d6R {m:j7} (h:a3f m):b4Z m=some (a0i m):=by
 unfold b4Z a0i
 have he:=h.2.2.2.2.2.1
 have hj2:b7E m=b10 m (a05 m.i0 zE) (A6 m.i0&&decide (m.g9<40)):=by
  unfold b7E
  simp only [c3b he,a4D he.f,Option.bind_some]
  cases A6 m.i0<;>rfl
 have hj : ∀ nv:Bool,nv=((m.a0.length:Int)==0)→(m.b7==2||nv)=true→b10 m (a05 m.i0 zE) (A6 m.i0&&decide (m.g9<40))=some (a7c m):=by
  intro nv hnv hk
  unfold b10 a7c
  simp only [a9N,c5G h.2.2.2.2.2.2,a4D he.f,Option.bind_some,a4J]
  rw [← hnv]
  cases h1:m.b7==1
  case true =>
   have:(m.b7==2)=false:=by
    simp only [beq_iff_eq] at h1
    rw [h1]; rfl
   rw [this,Bool.false_or] at hk
   simp only [cond_true,hk,Bool.and_true]
  cases h2:m.b7==2
  case true =>
   cases h4:m.b7==4
   ·rfl
   ·simp only [beq_iff_eq] at h2 h4
    omega
  rw [h2,Bool.false_or] at hk
  subst hk
  cases h3:m.b7==3
  case true =>
   cases h4:m.b7==4
   ·simp only [cond_true,cond_false,Bool.and_true]
    cases p7 m.b5 1 3000<;>cases A6 m.i0<;>cases decide (m.g9<40)<;>rfl
   ·simp only [beq_iff_eq] at h3 h4
    omega
  cases h4:m.b7==4
  case true=>simp only [cond_true,cond_false,Bool.and_true]
  simp only [cond_false]
  cases m.b7==5
  case true =>
   simp only [cond_true,Bool.and_true]
   cases m.b5==0<;>cases A6 m.i0<;>cases decide (m.g9<40)<;>rfl
  simp only [cond_false]
  cases m.b7==6
  case true =>
   simp only [cond_true,Bool.and_true]
   cases p7 m.b5 1 3000<;>cases a05 m.i0 zE<;>cases m.g9==0<;>rfl
  cases m.b7==7<;>cases m.b7==8<;>simp only [cond_true,cond_false,Bool.and_true,Bool.true_and,Bool.false_and]
 rw [hj2,c5v]
 cases p7 m.b6 0 2
 ·rfl
 simp only [cond_true,Bool.true_and]
 rw [c5v]
 cases p7 m.To 0 2
 ·rfl
 simp only [cond_true,Bool.true_and]
 cases m.b6==m.To
 case true=>rfl
 simp only [cond_false,Bool.not_false,Bool.true_and]
 rw [rng]
 cases p7 m.g9 0 40
 ·rfl
 simp only [cond_true,Bool.true_and]
 rw [d1v]
 cases h2:m.b7==2
 ·rw [show (m.b7 != 2)=true from by rw [bne,h2]; rfl]
  cases hv:((m.a0.length:Int)==0)
  ·show some false=_
   have:a7c m=false:=by
    unfold a7c
    rw [h2,hv]
    simp
   rw [this]
  ·exact hj true hv.symm (by simp)
 ·rw [show (m.b7 != 2)=false from by rw [bne,h2]; rfl]
  exact hj _ rfl (by rw [h2]; rfl)
def Y5 (t:m7):Bool:=p7 t.Node 0 2&&((p7 t.a5.b9 0 2&&p7 t.a5.Seq 1 1000)&&((t.a5.b9==t.Node)&&(p7 t.Code 0 4&&p7 t.c9 (-1000000) 1000000)))
theorem e6W (t:m7):b8T t=some (Y5 t):=by
 unfold b8T Y5
 simp only [c25,a6E,Option.bind_some,a4J]
 have e1:p7 t.Node 0 2=(decide (t.Node≥0)&&decide (t.Node<3)):=by
  unfold p7
  by_cases h1:t.Node≥0<;>by_cases h2:t.Node<3<;>simp [h1,h2]<;>omega
 have e2:p7 t.Code 0 4=(decide (t.Code≥0)&&decide (t.Code≤4)):=by
  unfold p7
  by_cases h1:t.Code≥0<;>by_cases h2:t.Code≤4<;>simp [h1,h2]<;>omega
 rw [e1,e2]
 simp only [Bool.and_assoc]
def a1F (x:r9):Bool:=(p7 x.a5.b9 0 2&&p7 x.a5.Seq 1 1000)&&H7 x.i4
def a4V (w:m3) (k:Nat):Bool:=match w.Nodes[k]? with
 | some n=>(n.Id==(k:Int))&&I1 n
 | none=>true
def E1 (w:m3):Bool:=((w.Nodes.length:Int)==3)&&(decide ((w.Net.length:Int)≤40)&&(decide ((w.Asked.length:Int)≤60)&&(decide ((w.Told.length:Int)≤60)&&((List.range w.Nodes.length).all (a4V w)&&(w.Net.all a0i&&(w.Asked.all a1F&&w.Told.all Y5))))))
theorem b33 {w:m3} (h:Z3 w):a66 w=some (E1 w):=by
 have k7:b4K w=some (w.Told.all Y5):=by
  unfold b4K
  rw [U3 w.Told (h.2.2.2.fits (by decide)) Y5 false ()]
  ·cases w.Told.all Y5<;>rfl
  ·intro k hk
   unfold b6F
   rw [x9 _ k hk,t9 hk]
   simp only [cond_true,Option.bind_some,e6W]
   cases Y5 w.Told[k]<;>rfl
  ·unfold b6F
   rw [B0]; rfl
 have k9:b5n w=some (w.Asked.all a1F&&w.Told.all Y5):=by
  unfold b5n
  rw [U3 w.Asked (h.2.2.1.fits (by decide)) a1F false ()]
  ·rw [k7]
   cases w.Asked.all a1F<;>rfl
  ·intro k hk
   unfold b6p
   rw [x9 _ k hk,t9 hk]
   simp only [cond_true,Option.bind_some,c25,b5W ((h.2.2.1.2 _ (List.getElem_mem hk)).2.fits (by decide))]
   unfold a1F
   cases p7 w.Asked[k].a5.b9 0 2&&p7 w.Asked[k].a5.Seq 1 1000<;>cases H7 w.Asked[k].i4<;>rfl
  ·unfold b6p
   rw [B0]; rfl
 have k11:b7K w=some (w.Net.all a0i&&(w.Asked.all a1F&&w.Told.all Y5)):=by
  unfold b7K
  rw [U3 w.Net (h.2.1.fits (by decide)) a0i false ()]
  ·rw [k9]
   cases w.Net.all a0i<;>rfl
  ·intro k hk
   unfold b5d
   rw [x9 _ k hk,t9 hk]
   simp only [cond_true,Option.bind_some,d6R (h.2.1.2 _ (List.getElem_mem hk))]
   cases a0i w.Net[k]<;>rfl
  ·unfold b5d
   rw [B0]; rfl
 unfold a66 E1
 rw [a2I w.Nodes (h.1.fits (by decide)) (a4V w) false ()]
 ·rw [k11]
  simp only [← a5N]
  rw [show ((w.Nodes.length:Int)==3) = !((w.Nodes.length:Int) != 3) from by simp [bne]]
  cases ((w.Nodes.length:Int) != 3)<;>cases decide ((w.Net.length:Int)>40)<;>cases decide ((w.Asked.length:Int)>60)<;>cases decide ((w.Told.length:Int)>60)<;>cases (List.range w.Nodes.length).all (a4V w)<;>rfl
 ·intro k hk _
  unfold b7w
  rw [x9 _ k hk,t9 hk]
  simp only [cond_true,Option.bind_some,b0f (h.1.2 _ (List.getElem_mem hk)),a4V,List.getElem?_eq_getElem hk,bne]
  cases w.Nodes[k].Id==(k:Int)<;>cases I1 w.Nodes[k]<;>rfl
 ·unfold b7w
  rw [B0]; rfl
theorem b9W {w:m3} (h:Z3 w):a84 w=some (E1 w):=by
 have k7:b6f w=some (w.Told.all Y5):=by
  unfold b6f
  rw [U3 w.Told (h.2.2.2.fits (by decide)) Y5 false ()]
  ·cases w.Told.all Y5<;>rfl
  ·intro k hk
   unfold b4z
   rw [x9 _ k hk,t9 hk]
   simp only [cond_true,Option.bind_some,Z2,b5F]
   unfold Y5
   rw [show (w.Told[k].a5.b9==w.Told[k].Node) = !(w.Told[k].a5.b9 != w.Told[k].Node) from by simp [bne]]
   cases p7 w.Told[k].Node 0 2<;>cases p7 w.Told[k].a5.b9 0 2&&p7 w.Told[k].a5.Seq 1 1000<;>cases (w.Told[k].a5.b9 != w.Told[k].Node)<;>cases p7 w.Told[k].Code 0 4<;>cases p7 w.Told[k].c9 (-1000000) 1000000<;>rfl
  ·unfold b4z
   rw [B0]; rfl
 have k9:b7k w=some (w.Asked.all a1F&&w.Told.all Y5):=by
  unfold b7k
  rw [U3 w.Asked (h.2.2.1.fits (by decide)) a1F false ()]
  ·rw [k7]
   cases w.Asked.all a1F<;>rfl
  ·intro k hk
   unfold b8i
   rw [x9 _ k hk,t9 hk]
   simp only [cond_true,Option.bind_some,b5F,c0Q ((h.2.2.1.2 _ (List.getElem_mem hk)).2.fits (by decide))]
   unfold a1F
   cases p7 w.Asked[k].a5.b9 0 2&&p7 w.Asked[k].a5.Seq 1 1000<;>cases H7 w.Asked[k].i4<;>rfl
  ·unfold b8i
   rw [B0]; rfl
 have k11:b7Y w=some (w.Net.all a0i&&(w.Asked.all a1F&&w.Told.all Y5)):=by
  unfold b7Y
  rw [U3 w.Net (h.2.1.fits (by decide)) a0i false ()]
  ·rw [k9]
   cases w.Net.all a0i<;>rfl
  ·intro k hk
   unfold b84
   rw [x9 _ k hk,t9 hk]
   simp only [cond_true,Option.bind_some,e1R (h.2.1.2 _ (List.getElem_mem hk))]
   cases a0i w.Net[k]<;>rfl
  ·unfold b84
   rw [B0]; rfl
 unfold a84 E1
 rw [a2I w.Nodes (h.1.fits (by decide)) (a4V w) false ()]
 ·rw [k11]
  simp only [← a5N]
  rw [show ((w.Nodes.length:Int)==3) = !((w.Nodes.length:Int) != 3) from by simp [bne]]
  cases ((w.Nodes.length:Int) != 3)<;>cases decide ((w.Net.length:Int)>40)<;>cases decide ((w.Asked.length:Int)>60)<;>cases decide ((w.Told.length:Int)>60)<;>cases (List.range w.Nodes.length).all (a4V w)<;>rfl
 ·intro k hk _
  unfold b43
  rw [x9 _ k hk,t9 hk]
  simp only [cond_true,Option.bind_some,e05 (h.1.2 _ (List.getElem_mem hk)),a4V,List.getElem?_eq_getElem hk,bne]
  cases w.Nodes[k].Id==(k:Int)<;>cases I1 w.Nodes[k]<;>rfl
 ·unfold b43
  rw [B0]; rfl
theorem d0J {α:Type} {p:List α→List α→Nat→Bool} (hp : ∀ (a b:List α) (k:Nat) (x y:α),a[k]?=some x→b[k]?=some y→(p a b k=true↔x=y)) (a b:List α):(a.length==b.length&&(List.range a.length).all (p a b))=true↔a=b:=by
 constructor
 ·intro h
  simp only [Bool.and_eq_true,beq_iff_eq,List.all_eq_true,List.mem_range] at h
  refine List.ext_getElem h.1 fun i h1 h2 => ?_
  exact (hp a b i _ _ (List.getElem?_eq_getElem h1) (List.getElem?_eq_getElem h2)).1 (h.2 i h1)
 ·rintro rfl
  simp only [Bool.and_eq_true,beq_iff_eq,List.all_eq_true,List.mem_range,true_and]
  intro k hk
  exact (hp a a k _ _ (List.getElem?_eq_getElem hk) (List.getElem?_eq_getElem hk)).2 rfl
theorem d3C (a b:m9):a5q a b=true↔a=b:=by
 have h1:=d0J (p:=a3m) (fun a b k x y hx hy=>by
  unfold a3m
  rw [hx,hy]
  cases x; cases y
  simp) a.a7 b.a7
 have h2:=d0J (p:=a3u) (fun a b k x y hx hy=>by
  unfold a3u
  rw [hx,hy]
  cases x; cases y
  simp) a.a8 b.a8
 unfold a5q
 rw [Bool.and_eq_true,h1,Bool.and_eq_true,h2,Bool.and_eq_true,beq_iff_eq,beq_iff_eq]
 cases a; cases b
 simp
theorem a5J (a b:l7):a05 a b=true↔a=b:=by
 unfold a05
 rw [Bool.and_eq_true,Bool.and_eq_true,d3C]
 obtain ⟨n,⟨q1,q2⟩,r⟩:=a
 obtain ⟨n',⟨q1',q2'⟩,r'⟩:=b
 simp [and_assoc]
theorem Y1 {n lo hi:Int}:p7 n lo hi=true↔lo≤n∧n≤hi:=by unfold p7; simp
theorem e1t {w:m3} (h:E1 w=true):w.Nodes.length=3 ∧ ∀ n∈w.Nodes,I1 n=true:=by
 unfold E1 at h
 simp only [Bool.and_eq_true,beq_iff_eq,List.all_eq_true,List.mem_range] at h
 refine ⟨by omega,fun n hn => ?_⟩
 obtain ⟨i,hi,rfl⟩:=List.getElem_of_mem hn
 have:=h.2.2.2.2.1 i hi
 unfold a4V at this
 rw [List.getElem?_eq_getElem hi] at this
 simp only [Bool.and_eq_true] at this
 exact this.2
theorem e40 {n:j3} (h:I1 n=true):p7 n.Id 0 2=true∧a1W n.Acc=true∧I9 n.a6=true∧a2d n=true∧a44 n=true:=by
 unfold I1 at h
 simp only [Bool.and_eq_true] at h
 exact ⟨h.1,h.2.1,h.2.2.1,h.2.2.2.2.2.1,h.2.2.2.2.2.2.1⟩
theorem e6H {l:List n5} (h:B9 16 d2z l):a3N l=some l:=by
 have hb:=h.1
 unfold a3N
 cases hl:((l.length:Int)==0)
 ·rw [cond_false,u7 (by constructor<;>omega),u7 (by simp)]
 ·simp only [beq_iff_eq] at hl
  have:l=[]:=List.eq_nil_of_length_eq_zero (by omega)
  rw [this]; rfl
theorem e69 {l:List m8} (h:B9 16 d2F l):a71 l=some l:=by
 have hb:=h.1
 unfold a71
 cases hl:((l.length:Int)==0)
 ·rw [cond_false,u7 (by constructor<;>omega),u7 (by simp)]
 ·simp only [beq_iff_eq] at hl
  have:l=[]:=List.eq_nil_of_length_eq_zero (by omega)
  rw [this]; rfl
theorem e7t {e:l7} (h:H2 e):b6i e=some e:=by
 unfold b6i c5R
 rw [e6H h.2.1,Option.bind_some,e69 h.2.2.1]
 rfl
theorem a1Z {e:l7} (h:H2 e):a0R e=some e:=by
 have h1:=h.2.1.1
 have h2:=h.2.2.1.1
 unfold a0R b9x
 rw [u7 (by simp; omega),u7 (by simp; omega)]
 rfl
theorem e6h {l:List l7} (h:B9 88 H2 l):b6Y l=some l:=by
 have hb:=h.1
 unfold b6Y
 cases hl:((l.length:Int)==0)
 ·rw [cond_false,u7 (by constructor<;>omega),u7 (by simp)]
 ·simp only [beq_iff_eq] at hl
  have:l=[]:=List.eq_nil_of_length_eq_zero (by omega)
  rw [this]; rfl
theorem e0S {l:List l7} (h:B9 88 H2 l):b8l l=some l:=by
 have hf:s8 l:=h.fits (by decide)
 unfold b8l
 rw [e6h h,Option.bind_some]
 have hl:=a1j (body:=fun s:(List l7)×Int=>b1J l s.1 s.2) (fun k=>(l,(k:Int))) l.length (by
  intro k hk
  unfold b1J
  rw [x9 _ k hk,t9 hk]
  simp only [cond_true,Option.bind_some,e7t (h.2 _ (List.getElem_mem hk)),J2 hf hk,Int.toNat_natCast,List.set_getElem_self])
 rw [show ((0:Nat):Int)=0 from rfl] at hl
 rw [hl,G5 (b:=l)]
 ·rfl
 ·unfold b1J
  rw [B0]; rfl
theorem c3A {l:List l7} (h:B9 88 H2 l):b1v l=some l:=by
 have hf:s8 l:=h.fits (by decide)
 have hb:=h.1
 unfold b1v
 have hl:=a1j (body:=fun s:(List l7)×Int=>b2w l s.1 s.2) (fun k=>(l.take k,(k:Int))) l.length (by
  intro k hk
  unfold b2w
  rw [x9 _ k hk,t9 hk]
  simp only [cond_true,Option.bind_some,a1Z (h.2 _ (List.getElem_mem hk)),J2 hf hk]
  rw [u7 (by rw [List.length_take]; omega),List.take_succ_eq_append_getElem hk])
 rw [show ((0:Nat):Int)=0 from rfl,List.take_zero] at hl
 rw [hl,List.take_length,G5 (b:=l)]
 ·rfl
 ·unfold b2w
  rw [B0]; rfl
def best (w:m3):Nat→Nat
 | 0=>0
 | k+1=>match w.Nodes[k]?,w.Nodes[best w k]? with
  | some a,some b=>bif decide ((a.a6.length:Int)>(b.a6.length:Int)) then k else best w k
  | _,_=>best w k
theorem a7b (w:m3) : ∀ k,0<w.Nodes.length→k≤w.Nodes.length→best w k<w.Nodes.length
 | 0,h,_=>h
 | k+1,h,hk=>by
  have hb:=a7b w k h (by omega)
  unfold best
  rw [List.getElem?_eq_getElem (show k<w.Nodes.length by omega),List.getElem?_eq_getElem hb]
  simp only
  cases decide ((w.Nodes[k].a6.length:Int)>(w.Nodes[best w k].a6.length:Int))
  ·exact hb
  ·exact hk
theorem c2a {w:m3} {k:Nat} (h:0<w.Nodes.length) (hk:k<w.Nodes.length):best w (k+1)=bif decide ((w.Nodes[k].a6.length:Int)>((w.Nodes[best w k]'(a7b w k h (by omega))).a6.length:Int)) then k else best w k:=by
 conv=>lhs; unfold best
 rw [List.getElem?_eq_getElem hk,List.getElem?_eq_getElem (a7b w k h (by omega))]
def ist (w:m3):Nat→Int×Int
 | 0=>(-1,0)
 | k+1=>((best w (k+1):Int),((k+1:Nat):Int))
def C5 (w:m3):List l7:=match w.Nodes[best w w.Nodes.length]? with
 | some n=>n.a6
 | none=>[]
theorem d0I {w:m3} (h:Z3 w) (hn:0<w.Nodes.length):b1d w=some (C5 w):=by
 have hf:s8 w.Nodes:=h.1.fits (by decide)
 unfold b1d
 have hl:=a1j (body:=fun s:Int×Int=>b2h w s.1 s.2) (fun k=>((best w k:Int),(k:Int))) w.Nodes.length (by
  intro k hk
  have hb:=a7b w k hn (by omega)
  unfold b2h c4F
  rw [x9 _ k hk,t9 hk,t9 hb,c2a hn hk]
  simp only [cond_true,Option.bind_some,J2 hf hk]
  cases decide ((w.Nodes[k].a6.length:Int)>(w.Nodes[best w k].a6.length:Int))<;>rfl)
 rw [show ((0:Nat):Int)=0 from rfl,show best w 0=0 from rfl] at hl
 have hbn:=a7b w w.Nodes.length hn (Nat.le_refl _)
 rw [show ((0:Nat):Int)=0 from rfl] at hl
 rw [hl,G5 (b:=(best w w.Nodes.length:Int))]
 ·simp only [Option.bind_some,j9.go]
  unfold c0y C5
  rw [show ((w.Nodes.length:Int)==0)=false from by rw [← Bool.not_eq_true,beq_iff_eq]; omega,t9 hbn,List.getElem?_eq_getElem hbn]
  simp only [cond_false,Option.bind_some,c3A (h.1.2 _ (List.getElem_mem hbn)).2.2.1]
 ·unfold b2h
  rw [B0]; rfl
theorem c60 {w:m3} (h:Z3 w) (hn:0<w.Nodes.length):a81 w=some (C5 w):=by
 have hf:s8 w.Nodes:=h.1.fits (by decide)
 unfold a81
 have hl:=a1j (body:=fun s:Int×Int=>a5O w s.1 s.2) (ist w) w.Nodes.length (by
  intro k hk
  cases k with
  | zero =>
   show a5O w (-1) 0=some (.nxt ((best w (0+1):Int),((0+1:Nat):Int)))
   unfold a5O b8P
   rw [show decide ((0:Int)<(w.Nodes.length:Int))=true from by simpa using hk,show idx w.Nodes 0=some w.Nodes[0] from t9 hk,show best w (0+1)=0 from by rw [c2a hn hk]; cases decide ((w.Nodes[0].a6.length:Int)>(w.Nodes[best w 0].a6.length:Int))<;>rfl]
   simp only [cond_true,Option.bind_some]
   have:n8 ((0:Int)+1)=((0+1:Nat):Int):=J2 hf hk
   rw [this]
   rfl
  | succ k =>
   have hb:=a7b w (k+1) hn (by omega)
   show a5O w (best w (k+1):Int) ((k+1:Nat):Int)=some (.nxt ((best w (k+1+1):Int),((k+1+1:Nat):Int)))
   unfold a5O b8P
   rw [x9 _ (k+1) hk,t9 hk,t9 hb,c2a hn hk,show decide ((best w (k+1):Int)<0)=false from by simp]
   simp only [cond_true,cond_false,Option.bind_some,J2 hf hk]
   cases decide ((w.Nodes[k+1].a6.length:Int)>(w.Nodes[best w (k+1)].a6.length:Int))<;>rfl)
 have hbn:=a7b w w.Nodes.length hn (Nat.le_refl _)
 obtain ⟨m,hm⟩ : ∃ m,w.Nodes.length=m+1:=⟨w.Nodes.length - 1,by omega⟩
 rw [show ist w w.Nodes.length=((best w w.Nodes.length:Int),(w.Nodes.length:Int)) from by rw [hm]; rfl] at hl
 rw [show q7 (fun s:Int×Int=>a5O w s.1 s.2) ((-1:Int),(0:Int))=_ from hl,G5 (b:=(best w w.Nodes.length:Int))]
 ·simp only [Option.bind_some,j9.go]
  unfold c3s C5
  rw [show decide ((best w w.Nodes.length:Int)<0)=false from by simp,t9 hbn,List.getElem?_eq_getElem hbn]
  simp only [cond_false,Option.bind_some,e0S (h.1.2 _ (List.getElem_mem hbn)).2.2.1]
 ·unfold a5O
  rw [B0]; rfl
theorem d0F {w:m3} (h:Z3 w) (hw:E1 w=true):0<w.Nodes.length∧B9 88 H2 (C5 w)∧I9 (C5 w)=true:=by
 obtain ⟨h3,hn⟩:=e1t hw
 have h0:0<w.Nodes.length:=by omega
 have hb:=a7b w w.Nodes.length h0 (Nat.le_refl _)
 refine ⟨h0,?_,?_⟩
 ·unfold C5
  rw [List.getElem?_eq_getElem hb]
  exact (h.1.2 _ (List.getElem_mem hb)).2.2.1
 ·unfold C5
  rw [List.getElem?_eq_getElem hb]
  exact (e40 (hn _ (List.getElem_mem hb))).2.2.1
def J5 (q:n9) (e:l7):Bool := !e.g8&&(([e.a5.b9,e.a5.Seq]:List Int)==[q.b9,q.Seq])
theorem a9l {α R S B:Type} {body:S→Option (j5 R S B)} (st:Nat→S) (l:List α) (is:α→Bool) (r:Nat→R) (b:B)
  (h1 : ∀ (k:Nat) (h:k<l.length),body (st k)=some (bif is l[k] then .ret (r k) else .nxt (st (k+1)))) (h2:body (st l.length)=some (.brk b)) :
  q7 body (st 0)=some (match l.findIdx? is with | some k=>.ret (r k) | none=>.brk b):=by
 rcases a4G (body:=body) st l.length (fun k=>match l[k]? with | some x => !is x | none=>true) r b
  (fun k hk _=>by
   rw [h1 k hk,List.getElem?_eq_getElem hk]
   simp only
   cases is l[k]<;>rfl) (fun _=>h2) with ⟨h,hall⟩ | ⟨k,hk,ho,hb,h⟩
 ·have:l.findIdx? is=none:=by
   rw [List.findIdx?_eq_none_iff]
   intro x hx
   obtain ⟨i,hi,rfl⟩:=List.getElem_of_mem hx
   have:=hall i hi
   rw [List.getElem?_eq_getElem hi] at this
   simpa using this
  rw [this]; exact h
 ·have:l.findIdx? is=some k:=by
   rw [List.findIdx?_eq_some_iff_getElem]
   refine ⟨hk,?_,fun j hj => ?_⟩
   ·rw [List.getElem?_eq_getElem hk] at ho
    simpa using ho
   ·have:=hb j hj
    rw [List.getElem?_eq_getElem (show j<l.length by omega)] at this
    simpa using this
  rw [this]; exact h
theorem d3c {l:List l7} (h:s8 l) (q:n9):b13 l q=some (match l.findIdx? (J5 q) with | some k=>(k:Int) | none => -1):=by
  unfold b13
  rw [show q7 (fun s:Int=>b0a l q s) 0=_ from a9l (body:=fun s:Int=>b0a l q s) (fun k=>(k:Int)) l (J5 q) (fun k=>(k:Int)) () (by
      intro k hk
      unfold b0a c3C J5
      rw [x9 _ k hk,t9 hk,← J2 h hk]
      simp only [cond_true,Option.bind_some]
      cases l[k].g8<;>cases (([l[k].a5.b9,l[k].a5.Seq]:List Int)==[q.b9,q.Seq])<;>rfl) (by
      unfold b0a
      rw [B0]; rfl)]
  cases l.findIdx? (J5 q)<;>rfl
theorem c9Q {l:List l7} (h:s8 l) (q:n9):b04 l q=some (match l.findIdx? (J5 q) with | some k=>(match l[k]? with | some e=>e.a9.c9 | none=>0) | none=>0):=by
  unfold b04
  rw [show q7 (fun s:Int=>a80 l q s) 0=_ from a9l (body:=fun s:Int=>a80 l q s) (fun k=>(k:Int)) l (J5 q) (fun k=>match l[k]? with | some e=>e.a9.c9 | none=>0) () (by
      intro k hk
      unfold a80 c09 J5
      rw [x9 _ k hk,t9 hk,← J2 h hk,List.getElem?_eq_getElem hk]
      simp only [cond_true,Option.bind_some]
      cases l[k].g8<;>cases (([l[k].a5.b9,l[k].a5.Seq]:List Int)==[q.b9,q.Seq])<;>rfl) (by
      unfold a80
      rw [B0]; rfl)]
  cases l.findIdx? (J5 q)<;>rfl
theorem c3j {l:List l7} (hl:l.length≤40) (he:l.all A6=true) {k:Nat} (hk:k<l.length):(q8 l).2[k]?=some (apply (q8 (l.take k)).1 l[k]).2:=by
 have key : ∀ m,k<m→m≤l.length→(q8 (l.take m)).2[k]?=some (apply (q8 (l.take k)).1 l[k]).2:=by
  intro m
  induction m with
  | zero=>omega
  | succ m ih =>
   intro h1 h2
   have hlen:=(a1q hl he m (by omega)).2.1
   rw [a4n (show m<l.length by omega)]
   unfold a9d
   simp only
   by_cases q:k<m
   ·rw [List.getElem?_append_left (by omega)]
    exact ih q (by omega)
   ·have:k=m:=by omega
    subst this
    rw [List.getElem?_append_right (by omega),hlen]
    simp
 have:=key l.length hk (Nat.le_refl _)
 rwa [List.take_length] at this
def a0A (l:List l7) (k:Nat):Int:=(q8 l).2[k]?.getD 0
theorem e2u {l:List l7} (h:B9 88 H2 l) (hok:I9 l=true) (q:n9):b7n l q=some (match l.findIdx? (J5 q) with | some k=>(a0A l k,true) | none=>(0,false)):=by
 obtain ⟨hl,he⟩:=a2j hok
 have hf:s8 l:=h.fits (by decide)
 unfold b7n
 rw [b8V,Option.bind_some]
 have:=a9l (body:=fun s:(List l9)×Int×Int×List n3=>b05 l q s.1 s.2.1 s.2.2.1 s.2.2.2) (fun k=>((q8 (l.take k)).1.d7,(k:Int),(q8 (l.take k)).1.At,(q8 (l.take k)).1.f0)) l (J5 q) (fun k=>(a0A l k,true)) () (by
   intro k hk
   obtain ⟨h1,h2,h3⟩:=a1q hl he k (by omega)
   unfold b05 c2h J5 a0A
   rw [x9 _ k hk,t9 hk,c3j hl he hk,a4n hk,← J2 hf hk]
   simp only [cond_true,Option.bind_some]
   rw [show (⟨(q8 (l.take k)).1.At,(q8 (l.take k)).1.d7,(q8 (l.take k)).1.f0⟩:o9)=(q8 (l.take k)).1 from rfl,b8R h1 (by omega) (List.all_eq_true.1 he _ (List.getElem_mem hk)) (h.2 _ (List.getElem_mem hk)).f,Option.bind_some]
   cases l[k].g8<;>cases (([l[k].a5.b9,l[k].a5.Seq]:List Int)==[q.b9,q.Seq])<;>rfl) (by
   unfold b05
   rw [B0]; rfl)
 rw [List.take_zero] at this
 rw [show q7 (fun s:(List l9)×Int×Int×List n3=>b05 l q s.1 s.2.1 s.2.2.1 s.2.2.2) (U0.d7,0,U0.At,U0.f0)=_ from this]
 cases l.findIdx? (J5 q)<;>rfl
def a8g (l:List l7) (t:m7):Bool:=match l.findIdx? (J5 t.a5) with
 | some k=>(a0A l k==t.Code)&&((bif t.Code==0 then (match l[k]? with | some e=>e.a9.c9 | none=>0) else 0)==t.c9)
 | none=>false
theorem e30 {w:m3} (h:Z3 w) : ∃ v,b48 w=some v∧b7v w=some v:=by
 unfold b48 b7v
 rw [b33 h,b9W h,Option.bind_some,Option.bind_some]
 cases hw:E1 w
 ·exact ⟨_,rfl,rfl⟩
 ·obtain ⟨h0,hlo,hok⟩:=d0F h hw
  obtain ⟨hl,he⟩:=a2j hok
  have hf:s8 w.Told:=h.2.2.2.fits (by decide)
  have hfl:s8 (C5 w):=hlo.fits (by decide)
  have hcl:(q8 (C5 w)).2.length=(C5 w).length:=by
   have:=(a1q hl he (C5 w).length (Nat.le_refl _)).2.1
   rwa [List.take_length] at this
  simp only [Bool.not_true,cond_false]
  rw [d0I h h0,c60 h h0,Option.bind_some,Option.bind_some,c1x (okEntries.s hlo) hl he,Option.bind_some]
  refine ⟨w.Told.all (a8g (C5 w)),?_,?_⟩
  ·rw [U3 w.Told hf (a8g (C5 w)) false ()]
   ·cases w.Told.all (a8g (C5 w))<;>rfl
   ·intro k hk
    unfold b87 c3t a8g
    rw [x9 _ k hk,t9 hk]
    simp only [cond_true,Option.bind_some,e2u hlo hok,c9Q hfl]
    cases (C5 w).findIdx? (J5 w.Told[k].a5) with
    | none=>rfl
    | some i =>
     simp only
     cases hc:a0A (C5 w) i==w.Told[k].Code
     ·rw [show (a0A (C5 w) i != w.Told[k].Code)=true from by rw [bne,hc]; rfl]
      cases a0A (C5 w) i==0<;>rfl
     ·rw [show (a0A (C5 w) i != w.Told[k].Code)=false from by rw [bne,hc]; rfl]
      simp only [beq_iff_eq] at hc
      rw [hc]
      cases w.Told[k].Code==0<;>simp only [cond_true,cond_false,Option.bind_some,j9.go,bne,Bool.true_and,Bool.not_true]<;>(cases (_:Int)==w.Told[k].c9<;>rfl)
   ·unfold b87
    rw [B0]; rfl
  ·rw [U3 w.Told hf (a8g (C5 w)) false ()]
   ·cases w.Told.all (a8g (C5 w))<;>rfl
   ·intro k hk
    unfold b7t c0G a8g
    rw [x9 _ k hk,t9 hk]
    simp only [cond_true,Option.bind_some,d3c hfl]
    cases hfi:(C5 w).findIdx? (J5 w.Told[k].a5) with
    | none=>rfl
    | some i =>
     obtain ⟨hi,_⟩:=List.findIdx?_eq_some_iff_getElem.1 hfi
     simp only
     rw [show decide ((i:Int)<0)=false from by simp,t9 (show i<(q8 (C5 w)).2.length by omega),t9 hi,List.getElem?_eq_getElem hi]
     have hco:a0A (C5 w) i=(q8 (C5 w)).2[i]'(by omega):=by unfold a0A; rw [List.getElem?_eq_getElem (by omega)]; rfl
     rw [hco]
     simp only [cond_false,Option.bind_some]
     cases hc:(q8 (C5 w)).2[i]'(by omega)==w.Told[k].Code
     ·rw [show ((q8 (C5 w)).2[i]'(by omega) != w.Told[k].Code)=true from by rw [bne,hc]; rfl]
      rfl
     ·rw [show ((q8 (C5 w)).2[i]'(by omega) != w.Told[k].Code)=false from by rw [bne,hc]; rfl]
      have hcomm : ∀ x:Int,(w.Told[k].c9==x)=(x==w.Told[k].c9):=fun x=>by
       rw [Bool.eq_iff_iff,beq_iff_eq,beq_iff_eq]
       exact eq_comm
      cases w.Told[k].Code==0<;>simp only [cond_true,cond_false,Option.bind_some,j9.go,bne,Bool.true_and,Bool.not_true,hcomm]<;>(cases (_:Int)==w.Told[k].c9<;>rfl)
   ·unfold b7t
    rw [B0]; rfl
theorem b9q {α B R:Type} {body:Int→Option (j5 R Int B)} (l:List α) (hl:s8 l) (ok:α→Bool) (v:R) (b:B)
  (h1 : ∀ (k:Nat) (h:k<l.length),body (k:Int)=some (bif ok l[k] then .nxt (n8 ((k:Int)+1)) else .ret v))
  (h2:body (l.length:Int)=some (.brk b)):q7 body 0=some (bif l.all ok then .brk b else .ret v):=by
 have h:=a4G (body:=body) (fun k=>(k:Int)) l.length (fun k=>match l[k]? with | some x=>ok x | none=>true) (fun _=>v) b
  (fun k hk _=>by
   have:=h1 k hk
   rw [J2 hl hk] at this
   simpa [List.getElem?_eq_getElem hk] using this) (fun _=>h2)
 rcases h with ⟨h,hall⟩ | ⟨k,hk,ho,_,h⟩
 ·have:l.all ok=true:=by
   rw [List.all_eq_true]
   intro x hx
   obtain ⟨i,hi,rfl⟩:=List.getElem_of_mem hx
   have:=hall i hi
   simpa [List.getElem?_eq_getElem hi] using this
  rw [this]; exact h
 ·have:l.all ok=false:=by
   rw [List.all_eq_false]
   refine ⟨l[k],List.getElem_mem hk,?_⟩
   simpa [List.getElem?_eq_getElem hk] using ho
  rw [this]; exact h
theorem b3e {l:List n5} (h:l.length≤1000):a3N l=some l:=by
 unfold a3N
 cases hl:((l.length:Int)==0)
 ·rw [cond_false,u7 (by constructor<;>omega),u7 (by simp)]
 ·simp only [beq_iff_eq] at hl
  have:l=[]:=List.eq_nil_of_length_eq_zero (by omega)
  rw [this]; rfl
theorem d9S {l:List m8} (h:l.length≤1000):a71 l=some l:=by
 unfold a71
 cases hl:((l.length:Int)==0)
 ·rw [cond_false,u7 (by constructor<;>omega),u7 (by simp)]
 ·simp only [beq_iff_eq] at hl
  have:l=[]:=List.eq_nil_of_length_eq_zero (by omega)
  rw [this]; rfl
def a1n (ps:List m8) (b:Int):Option Nat:=ps.findIdx? (·.d9==b)
def atI:Option Nat→Int
 | some k=>(k:Int)
 | none => -1
theorem d5j {l:List m8} (h:s8 l) (b:Int):a39 l b=some (atI (a1n l b)):=by
 unfold a39
 rw [show (0:Int)=((0:Nat):Int) from rfl,a9l (body:=fun s:Int=>a21 l b s) (fun k=>(k:Int)) l (·.d9==b) (fun k=>(k:Int)) ()]
 ·unfold a1n
  cases l.findIdx? (·.d9==b)<;>rfl
 ·intro k hk
  unfold a21
  rw [x9 _ k hk,t9 hk,J2 h hk]
  simp only [cond_true,Option.bind_some]
  cases l[k].d9==b<;>rfl
 ·unfold a21
  rw [B0]; rfl
theorem c9a {x:m9} (h:s8 x.a8) (b:Int):b2U x b=some (atI (a1n x.a8 b)):=by
 unfold b2U
 rw [show (0:Int)=((0:Nat):Int) from rfl,a9l (body:=fun s:Int=>b2x x b s) (fun k=>(k:Int)) x.a8 (·.d9==b) (fun k=>(k:Int)) ()]
 ·unfold a1n
  cases x.a8.findIdx? (·.d9==b)<;>rfl
 ·intro k hk
  unfold b2x
  rw [x9 _ k hk,t9 hk,J2 h hk]
  simp only [cond_true,Option.bind_some]
  cases x.a8[k].d9==b<;>rfl
 ·unfold b2x
  rw [B0]; rfl
theorem b8g {ps:List m8} {b:Int} {k:Nat} (h:a1n ps b=some k):k<ps.length:=by
 obtain ⟨hk,_⟩:=List.findIdx?_eq_some_iff_getElem.1 h
 exact hk
theorem b6M (k:Nat):decide (atI (some k)≥0)=true:=by simp [atI]
theorem b42:decide (atI none≥0)=false:=by simp [atI]
theorem d9g {x:m9} (h:s8 x.a7) (b:Int) : ∃ v,b1Q x b=some v∧decide (v<0) = !(Q7 x.a7 b):=by
 obtain ⟨v,h1,h2⟩:=e5T h b
 refine ⟨v,h1,?_⟩
 rw [← h2]
 by_cases q:v≥0
 ·have : ¬ v<0:=by omega
  simp [q,this]
 ·have:v<0:=by omega
  simp [q,this]
def M8 (v:Int):Bool:=p7 v (-1000000) 1000000
def M2 (regs:List Int) (a:Int):Int:=regs.getD a.toNat 0
theorem P4 {regs:List Int} (h:regs.length=4) {a:Int} (ha:0≤a∧a≤3):idx regs a=some (M2 regs a):=by
 obtain ⟨k,rfl⟩:=Int.eq_ofNat_of_zero_le ha.1
 have hk:k<regs.length:=by omega
 rw [t9 hk]
 unfold M2
 simp [hk]
theorem d9F {regs:List Int} (h:regs.length=4) {a v:Int} (ha:0≤a∧a≤3):M2 (regs.set a.toNat v) a=v:=by
 unfold M2
 have:a.toNat<regs.length:=by omega
 simp [this]
theorem e4H {regs:List Int} (h:regs.length=4) (hr:regs.all M8=true) {a v:Int} (ha:0≤a∧a≤3):(regs.set a.toNat v).all M8=M8 v:=by
 cases hv:M8 v
 ·rw [List.all_eq_false]
  exact ⟨v,List.mem_of_getElem? (i:=a.toNat) (by rw [List.getElem?_set_self (by omega)]),by simp [hv]⟩
 ·rw [List.all_eq_true] at hr ⊢
  intro x hx
  rcases List.mem_or_eq_of_mem_set hx with hx | rfl
  ·exact hr x hx
  ·exact hv
theorem a5m {regs:List Int} (h:regs.length=4) (hr:regs.all M8=true) {a:Int} (ha:0≤a∧a≤3) : -1000000≤M2 regs a∧M2 regs a≤1000000:=by
 have hi:=P4 h ha
 have hm:M2 regs a∈regs:=List.mem_of_getElem? (b7D hi).2.2
 have:=List.all_eq_true.1 hr _ hm
 simpa [M8,p7] using this
structure EI (regs:List Int) (rs:List n5) (ps:List m8) (k:Nat):Prop where
 len:regs.length=4
 rng:regs.all M8=true
 rl:rs.length≤k
 pl:ps.length≤k
theorem EI.fr {regs:List Int} {rs:List n5} {ps:List m8} {k:Nat} (h:EI regs rs ps k) (hk:k≤100):s8 rs:=by
 have:=h.rl
 unfold s8
 omega
theorem EI.fp {regs:List Int} {rs:List n5} {ps:List m8} {k:Nat} (h:EI regs rs ps k) (hk:k≤100):s8 ps:=by
 have:=h.pl
 unfold s8
 omega
def M4 (l:List l9) (i:m5) (regs:List Int) (rs:List n5) (ps:List m8):List Int×List n5×List m8 :=
 bif i.b7==1 then (match a1n ps i.B with
  | some k=>(match ps[k]? with
   | some p=>(regs.set i.A.toNat p.c9,rs,ps)
   | none=>(regs,rs,ps))
  | none=>match l[i.B.toNat]? with
   | some b=>(regs.set i.A.toNat b.c9,bif Q7 rs i.B then rs else rs++[⟨i.B,b.i6⟩],ps)
   | none=>(regs,rs,ps))
 else bif i.b7==2 then (regs,rs,match a1n ps i.A with
  | some k=>(match ps[k]? with
   | some p=>ps.set k ⟨p.d9,M2 regs i.B⟩
   | none=>ps)
  | none=>ps++[⟨i.A,M2 regs i.B⟩])
 else bif i.b7==3 then (regs.set i.A.toNat i.N,rs,ps)
 else bif i.b7==4 then (regs.set i.A.toNat (M2 regs i.A+M2 regs i.B),rs,ps)
 else bif i.b7==5 then (regs.set i.A.toNat (M2 regs i.A - M2 regs i.B),rs,ps)
 else (regs,rs,ps)
def a5b (l:List l9) (prog:List m5):Nat→Nat→List Int→List n5→List m8→m9
 | 0,_,regs,rs,ps=>⟨rs,ps,M2 regs 0,0⟩
 | f+1,k,regs,rs,ps=>match prog[k]? with
  | none=>⟨rs,ps,M2 regs 0,0⟩
  | some i=>bif i.b7==6 then a5b l prog f (bif decide (M2 regs i.A<M2 regs i.B) then k+i.N.toNat+1 else k+1) regs rs ps
   else bif i.b7==7 then ⟨rs,[],0,1⟩
   else bif (M4 l i regs rs ps).1.all M8 then a5b l prog f (k+1) (M4 l i regs rs ps).1 (M4 l i regs rs ps).2.1 (M4 l i regs rs ps).2.2
   else ⟨(M4 l i regs rs ps).2.1,[],0,2⟩
def D6 (l:List l9) (prog:List m5):m9:=bif E0 l&&H7 prog then a5b l prog (prog.length+1) 0 [0,0,0,0] [] [] else ⟨[],[],0,3⟩
section
variable {l:List l9} {regs:List Int} {rs:List n5} {ps:List m8} {k:Nat} {i:m5}
theorem d01 (h:regs.length=4):(M4 l i regs rs ps).1.length=4:=by
 unfold M4
 cases i.b7==1<;>cases i.b7==2<;>cases i.b7==3<;>cases i.b7==4<;>cases i.b7==5<;>simp only [cond_true,cond_false,List.length_set,h]
 all_goals
  split
  ·split<;>simp [h]
  ·split<;>simp [h]
theorem e68 (h:rs.length≤k):(M4 l i regs rs ps).2.1.length≤k+1:=by
 unfold M4
 cases i.b7==1<;>cases i.b7==2<;>cases i.b7==3<;>cases i.b7==4<;>cases i.b7==5<;>simp only [cond_true,cond_false]<;>try omega
 all_goals
  split
  ·split<;>(simp only; omega)
  ·split
   ·cases Q7 rs i.B<;>simp only [cond_true,cond_false,List.length_append,List.length_singleton]<;>omega
   ·simp only; omega
theorem d6K (h:ps.length≤k):(M4 l i regs rs ps).2.2.length≤k+1:=by
 unfold M4
 cases i.b7==1<;>cases i.b7==2<;>cases i.b7==3<;>cases i.b7==4<;>cases i.b7==5<;>simp only [cond_true,cond_false]<;>try omega
 all_goals (repeat' split)
 all_goals (try simp only [List.length_set,List.length_append,List.length_singleton])
 all_goals omega
theorem EI.next (h:EI regs rs ps k) (ha:(M4 l i regs rs ps).1.all M8=true):EI (M4 l i regs rs ps).1 (M4 l i regs rs ps).2.1 (M4 l i regs rs ps).2.2 (k+1) :=
 ⟨d01 h.len,ha,e68 h.rl,d6K h.pl⟩
theorem b6c {x:Int} (h : -1000000≤x∧x≤1000000) {y:Int} (h' : -1000000≤y∧y≤1000000):n8 (x+y)=x+y∧n8 (x - y)=x - y:=⟨D4 (by omega) (by omega),D4 (by omega) (by omega)⟩
theorem d6S (hl:E0 l=true) (he:EI regs rs ps k) (hk:k≤100) (hi:W6 i=true) (h6:i.b7≠6) (h7:i.b7≠7) :
  a6K l ⟨rs,ps,0,0⟩ regs i=some (⟨(M4 l i regs rs ps).2.1,(M4 l i regs rs ps).2.2,0,bif (M4 l i regs rs ps).1.all M8 then 0 else 2⟩,(M4 l i regs rs ps).1):=by
 have hfr:=he.fr hk
 have hfp:=he.fp hk
 have hrl:=he.rl
 have hpl:=he.pl
 have n1:(rs.length+1) * 16≤140737488355328:=by omega
 have n2:(ps.length+1) * 16≤140737488355328:=by omega
 have fin : ∀ (a v:Int) (rs':List n5) (ps':List m8),0≤a∧a≤3→i.b7≠2→i.A=a→a4z i (regs.set a.toNat v) rs' ps' 0 0=some (⟨rs',ps',0,bif (regs.set a.toNat v).all M8 then 0 else 2⟩,regs.set a.toNat v):=by
  intro a v rs' ps' ha h2 hia
  unfold a4z a8q
  rw [show (i.b7 != 2)=true from by simpa using h2,cond_true,hia,P4 (by simpa using he.len) ha,Option.bind_some,a6E,Option.bind_some,d9F he.len ha,e4H he.len he.rng ha]
  unfold M8
  cases p7 v (-1000000) 1000000<;>rfl
 unfold a6K M4
 rcases a8F hi with ⟨h,ha,hb⟩ | ⟨h,ha,hb⟩ | ⟨h,ha,hn⟩ | ⟨h,ha,hb⟩ | ⟨h,ha,hb⟩ | ⟨h,_⟩ | ⟨h,_⟩
 ·simp only [h,show ((1:Int)==1)=true from rfl,cond_true]
  unfold b2K b23
  rw [d5j hfp,Option.bind_some]
  cases hp:a1n ps i.B with
  | some j =>
   have hj:=b8g hp
   simp only [b6M,cond_true,List.getElem?_eq_getElem hj]
   simp only [atI,t9 hj,Option.bind_some,P4 he.len ha,j9.go]
   exact fin i.A _ rs ps ha (by omega) rfl
  | none =>
   obtain ⟨b,hb1,hb2,_⟩:=a6B hl hb
   simp only [b42,cond_false,c0k hfr,Option.bind_some,hb1,hb2,u7 n1]
   cases hs:Q7 rs i.B
   ·simp only [Bool.not_false,cond_true,cond_false,Option.bind_some,j9.go,hb1,P4 he.len ha]
    exact fin i.A _ _ _ ha (by omega) rfl
   ·simp only [Bool.not_true,cond_true,cond_false,Option.bind_some,j9.go,hb1,P4 he.len ha]
    exact fin i.A _ _ _ ha (by omega) rfl
 ·simp only [h,show ((2:Int)==1)=false from rfl,show ((2:Int)==2)=true from rfl,cond_true,cond_false,P4 he.len hb,Option.bind_some]
  unfold b2c
  rw [d5j hfp,Option.bind_some]
  have fin2 : ∀ ps':List m8,a4z i regs rs ps' 0 0=some (⟨rs,ps',0,bif regs.all M8 then 0 else 2⟩,regs):=by
   intro ps'
   unfold a4z a8q
   rw [he.rng,h]
   rfl
  cases hp:a1n ps i.A with
  | some j =>
   have hj:=b8g hp
   simp only [b6M,cond_true,List.getElem?_eq_getElem hj]
   simp only [atI,t9 hj,Option.bind_some,j9.go,Int.toNat_natCast]
   exact fin2 _
  | none =>
   simp only [b42,cond_false,u7 n2,Option.bind_some,j9.go]
   exact fin2 _
 ·simp only [h,show ((3:Int)==1)=false from rfl,show ((3:Int)==2)=false from rfl,show ((3:Int)==3)=true from rfl,cond_true,cond_false,P4 he.len ha,Option.bind_some,j9.go]
  exact fin i.A _ _ _ ha (by omega) rfl
 ·simp only [h,show ((4:Int)==1)=false from rfl,show ((4:Int)==2)=false from rfl,show ((4:Int)==3)=false from rfl,show ((4:Int)==4)=true from rfl,cond_true,cond_false,P4 he.len ha,P4 he.len hb,Option.bind_some,j9.go,(b6c (a5m he.len he.rng ha) (a5m he.len he.rng hb)).1]
  exact fin i.A _ _ _ ha (by omega) rfl
 ·simp only [h,show ((5:Int)==1)=false from rfl,show ((5:Int)==2)=false from rfl,show ((5:Int)==3)=false from rfl,show ((5:Int)==4)=false from rfl,show ((5:Int)==5)=true from rfl,cond_true,cond_false,P4 he.len ha,P4 he.len hb,Option.bind_some,j9.go,(b6c (a5m he.len he.rng ha) (a5m he.len he.rng hb)).2]
  exact fin i.A _ _ _ ha (by omega) rfl
 ·exact absurd h h6
 ·exact absurd h h7
theorem d7h (hi:i.b7=7) (ha:i.A=0) (he:EI regs rs ps k):a6K l ⟨rs,ps,0,0⟩ regs i=some (⟨rs,ps,0,1⟩,regs):=by
 have hin:=a5m he.len he.rng (a:=0) (by omega)
 unfold a6K a4z a8q
 simp only [hi,ha,show ((7:Int)==1)=false from rfl,show ((7:Int)==2)=false from rfl,show ((7:Int)==3)=false from rfl,show ((7:Int)==4)=false from rfl,show ((7:Int)==5)=false from rfl,show ((7:Int)==7)=true from rfl,show ((7:Int) != 2)=true from rfl,cond_true,cond_false,Option.bind_some,j9.go,P4 he.len (a:=0) (by omega),a6E]
 rw [show p7 (M2 regs 0) (-1000000) 1000000=true from by simp [p7]; exact hin]
 rfl
theorem d5I (l:List l9) {prog:List m5} {f k:Nat} {regs:List Int} {rs:List n5} {ps:List m8} (h:prog.length≤k):a5b l prog f k regs rs ps=⟨rs,ps,M2 regs 0,0⟩:=by
 cases f with
 | zero=>rfl
 | succ f =>
  unfold a5b
  rw [List.getElem?_eq_none h]
theorem b9l {prog:List m5} (hp:H7 prog=true):prog.length≤10 ∧ ∀ i∈prog,W6 i=true:=by
 unfold H7 at hp
 simpa using hp
theorem c72 (l:List l9) (prog:List m5) (regs:List Int) (rs:List n5) (ps:List m8) (k c:Int) (hc:(c==0)=false) :
  ((q7 (fun s:(List Int)×(List n5)×(List m8)×Int×Int×Int=>a1V l prog s.1 s.2.1 s.2.2.1 s.2.2.2.1 s.2.2.2.2.1 s.2.2.2.2.2) (regs,rs,ps,k,0,c)).bind fun x=>x.go (fun r=>some r) fun s=>a7q s.1 s.2.1 s.2.2.1 s.2.2.2.1 s.2.2.2.2)=some ⟨rs,[],0,c⟩:=by
 rw [G5 (b:=(rs,ps,regs,0,c))]
 ·simp only [Option.bind_some,j9.go]
  unfold a7q
  rw [bne,hc]
  rfl
 ·unfold a1V
  simp only [hc,cond_false]
  cases decide (k<(prog.length:Int))<;>rfl
theorem e2v (hl:E0 l=true) {prog:List m5} (hp:H7 prog=true) : ∀ (f k:Nat) (regs:List Int) (rs:List n5) (ps:List m8),EI regs rs ps k→prog.length<k+f→k≤prog.length+10 →
  ((q7 (fun s:(List Int)×(List n5)×(List m8)×Int×Int×Int=>a1V l prog s.1 s.2.1 s.2.2.1 s.2.2.2.1 s.2.2.2.2.1 s.2.2.2.2.2) (regs,rs,ps,(k:Int),0,0)).bind fun x=>x.go (fun r=>some r) fun s=>a7q s.1 s.2.1 s.2.2.1 s.2.2.2.1 s.2.2.2.2)=some (a5b l prog f k regs rs ps):=by
 obtain ⟨hlen,hins⟩:=b9l hp
 intro f
 induction f with
 | zero =>
  intro k regs rs ps he hf hk
  rw [G5 (b:=(rs,ps,regs,0,0))]
  ·simp only [Option.bind_some,j9.go]
   unfold a7q
   rw [show ((0:Int) != 0)=false from rfl,cond_false,P4 he.len (a:=0) (by omega)]
   rfl
  ·unfold a1V
   rw [show decide ((k:Int)<(prog.length:Int))=false from by simp; omega]
   rfl
 | succ f ih =>
  intro k regs rs ps he hf hk
  by_cases hlt:k<prog.length
  ·have hi:=hins _ (List.getElem_mem hlt)
   unfold a5b
   rw [List.getElem?_eq_getElem hlt]
   simp only
   by_cases h6:prog[k].b7=6
   ·obtain ⟨ha,hb,hn⟩:(0≤prog[k].A∧prog[k].A≤3)∧(0≤prog[k].B∧prog[k].B≤3)∧1≤prog[k].N∧prog[k].N≤10:=by
     rcases a8F hi with ⟨h,_⟩ | ⟨h,_⟩ | ⟨h,_⟩ | ⟨h,_⟩ | ⟨h,_⟩ | ⟨h,x⟩ | ⟨h,_⟩
     all_goals first | (exact x) | (exfalso; omega)
    have hb1:a1V l prog regs rs ps (k:Int) 0 0=some (.nxt (regs,rs,ps,((bif decide (M2 regs prog[k].A<M2 regs prog[k].B) then k+prog[k].N.toNat+1 else k+1:Nat):Int),0,0)):=by
     unfold a1V b70
     rw [x9 _ k hlt,t9 hlt]
     simp only [cond_true,Option.bind_some,h6,show ((6:Int)==6)=true from rfl,show ((0:Int)==0)=true from rfl,P4 he.len ha,P4 he.len hb]
     cases decide (M2 regs prog[k].A<M2 regs prog[k].B)
     ·simp only [cond_false,Option.bind_some,j9.go]
      rw [D4 (by omega) (by omega)]
      rfl
     ·simp only [cond_true,Option.bind_some,j9.go]
      rw [D4 (n:=(k:Int)+prog[k].N) (by omega) (by omega),D4 (by omega) (by omega),show ((k+prog[k].N.toNat+1:Nat):Int)=(k:Int)+prog[k].N+1 from by omega]
    rw [M5 hb1,h6]
    simp only [show ((6:Int)==6)=true from rfl,cond_true]
    refine ih _ _ _ _ ⟨he.len,he.rng,?_,?_⟩ ?_ ?_
    all_goals
     have h1:=he.rl
     have h2:=he.pl
     cases decide (M2 regs prog[k].A<M2 regs prog[k].B)<;>simp only [cond_true,cond_false]<;>omega
   by_cases h7:prog[k].b7=7
   ·have ha:prog[k].A=0:=by
     rcases a8F hi with ⟨h,_⟩ | ⟨h,_⟩ | ⟨h,_⟩ | ⟨h,_⟩ | ⟨h,_⟩ | ⟨h,_⟩ | ⟨h,x⟩
     all_goals first | (exact x) | (exfalso; omega)
    have hb1:a1V l prog regs rs ps (k:Int) 0 0=some (.nxt (regs,rs,ps,n8 ((k:Int)+1),0,1)):=by
     unfold a1V
     rw [x9 _ k hlt,t9 hlt]
     simp only [cond_true,Option.bind_some,show ((0:Int)==0)=true from rfl,d7h h7 ha he,h7,show ((7:Int)==6)=false from rfl,cond_false]
     rw [u7 trivial]
    rw [M5 hb1,c72 _ _ _ _ _ _ _ rfl,h7]
    rfl
   ·have hs:=d6S hl he (by omega) hi h6 h7
    have hb1:a1V l prog regs rs ps (k:Int) 0 0=some (.nxt ((M4 l prog[k] regs rs ps).1,(M4 l prog[k] regs rs ps).2.1,(M4 l prog[k] regs rs ps).2.2,((k+1:Nat):Int),0,bif (M4 l prog[k] regs rs ps).1.all M8 then 0 else 2)):=by
     unfold a1V
     rw [x9 _ k hlt,t9 hlt]
     simp only [cond_true,Option.bind_some,show ((0:Int)==0)=true from rfl,hs,show (prog[k].b7==6)=false from by simpa using h6,cond_false]
     rw [u7 (by rw [d01 he.len]; exact he.len),D4 (by omega) (by omega)]
     rfl
    rw [M5 hb1,show (prog[k].b7==6)=false from by simpa using h6,show (prog[k].b7==7)=false from by simpa using h7,cond_false,cond_false]
    cases hall:(M4 l prog[k] regs rs ps).1.all M8
    ·rw [cond_false,cond_false,c72 _ _ _ _ _ _ _ rfl]
    ·rw [cond_true,cond_true]
     exact ih _ _ _ _ (he.next hall) (by omega) (by omega)
  ·rw [d5I l (by omega),G5 (b:=(rs,ps,regs,0,0))]
   ·simp only [Option.bind_some,j9.go]
    unfold a7q
    rw [show ((0:Int) != 0)=false from rfl,cond_false,P4 he.len (a:=0) (by omega)]
    rfl
   ·unfold a1V
    rw [show decide ((k:Int)<(prog.length:Int))=false from by simp; omega]
    rfl
theorem ei0:EI [0,0,0,0] [] [] 0:=⟨rfl,by decide,by simp,by simp⟩
theorem c1C {l:List l9} {prog:List m5} (hl:s8 l) (hp:s8 prog):a8x l prog=some (D6 l prog):=by
 unfold a8x D6
 rw [b8f hl,Option.bind_some,b5W hp,Option.bind_some]
 cases hb:E0 l
 ·rfl
 cases ho:H7 prog
 ·rfl
 rw [Bool.not_true,cond_false,cond_false,u7 (by decide)]
 have:=e2v hb ho (prog.length+1) 0 [0,0,0,0] [] [] ei0 (by omega) (by omega)
 exact this
theorem d8E {regs:List Int} {z0:List n5} {ins:m5} {C6:m8} (h:regs.length=4) (hr:z0.length≤1000):q7 (fun s:Int=>b35 regs z0 ins C6 s) 0=some (bif (regs.set ins.A.toNat C6.c9).all M8 then .brk () else .ret ⟨z0,[],0,2⟩):=by
 have hl:(regs.set ins.A.toNat C6.c9).length=4:=by simpa using h
 refine b9q (regs.set ins.A.toNat C6.c9) (by unfold s8; omega) M8 _ () (fun k hk => ?_) ?_
 ·have hk4:(k:Int)<4:=by omega
  unfold b35
  rw [decide_eq_true hk4,t9 hk,cond_true,Option.bind_some,u7 hk4,Z2,Option.bind_some,b3e hr]
  unfold M8
  cases p7 (regs.set ins.A.toNat C6.c9)[k] (-1000000) 1000000<;>rfl
 ·unfold b35
  rw [hl]
  rfl
theorem d4p {regs:List Int} {z0:List n5} {ins:m5} {box:l9} (h:regs.length=4) (hr:z0.length≤1000):q7 (fun s:Int=>b1R regs ins z0 box s) 0=some (bif (regs.set ins.A.toNat box.c9).all M8 then .brk () else .ret ⟨z0,[],0,2⟩):=by
 have hl:(regs.set ins.A.toNat box.c9).length=4:=by simpa using h
 refine b9q (regs.set ins.A.toNat box.c9) (by unfold s8; omega) M8 _ () (fun k hk => ?_) ?_
 ·have hk4:(k:Int)<4:=by omega
  unfold b1R
  rw [decide_eq_true hk4,t9 hk,cond_true,Option.bind_some,u7 hk4,Z2,Option.bind_some,b3e hr]
  unfold M8
  cases p7 (regs.set ins.A.toNat box.c9)[k] (-1000000) 1000000<;>rfl
 ·unfold b1R
  rw [hl]
  rfl
theorem c24 {regs:List Int} {z0:List n5} (h:regs.length=4) (hr:z0.length≤1000):q7 (fun s:Int=>b2F z0 regs s) 0=some (bif regs.all M8 then .brk () else .ret ⟨z0,[],0,2⟩):=by
 refine b9q regs (by unfold s8; omega) M8 _ () (fun k hk => ?_) ?_
 ·have hk4:(k:Int)<4:=by omega
  unfold b2F
  rw [decide_eq_true hk4,t9 hk,cond_true,Option.bind_some,u7 hk4,Z2,Option.bind_some,b3e hr]
  unfold M8
  cases p7 regs[k] (-1000000) 1000000<;>rfl
 ·unfold b2F
  rw [h]
  rfl
theorem d84 (hl:E0 l=true) (he:EI regs rs ps k) (hk:k≤100) {prog:List m5} (hkl:k<prog.length) (hpl:prog.length≤10) (R:List n5) (P:List m8) (hi:W6 prog[k]=true) (h6:prog[k].b7≠6) (h7:prog[k].b7≠7) :
  a33 l prog regs R P rs ps (k:Int)=some (bif (M4 l prog[k] regs rs ps).1.all M8 then .nxt ((M4 l prog[k] regs rs ps).1,R,P,(M4 l prog[k] regs rs ps).2.1,(M4 l prog[k] regs rs ps).2.2,((k+1:Nat):Int)) else .ret ⟨(M4 l prog[k] regs rs ps).2.1,[],0,2⟩):=by
 have hfr:=he.fr hk
 have hfp:=he.fp hk
 have hrl:=he.rl
 have hpl:=he.pl
 have n1:(rs.length+1) * 16≤140737488355328:=by omega
 have n2:(ps.length+1) * 16≤140737488355328:=by omega
 have hw:n8 ((k:Int)+1)=((k+1:Nat):Int):=by rw [D4 (by omega) (by omega)]; rfl
 have fin : ∀ (regs':List Int) (ps':List m8),regs'.length=4→b1f R P rs regs' ps' (k:Int)=some (bif regs'.all M8 then .nxt (regs',R,P,rs,ps',((k+1:Nat):Int)) else .ret ⟨rs,[],0,2⟩):=by
  intro regs' ps' h
  unfold b1f b39
  rw [c24 h (by omega),hw]
  cases regs'.all M8<;>rfl
 have hset : ∀ (a:Nat) (v:Int),(regs.set a v).length=4:=fun a v=>by simpa using he.len
 unfold a33 M4
 generalize hin:prog[k]=i at hi h6 h7
 rw [x9 _ k hkl,t9 hkl,hin,cond_true,Option.bind_some]
 rcases a8F hi with ⟨h,ha,hb⟩ | ⟨h,ha,hb⟩ | ⟨h,ha,hn⟩ | ⟨h,ha,hb⟩ | ⟨h,ha,hb⟩ | ⟨h,_⟩ | ⟨h,_⟩
 ·have na:i.A<4:=by omega
  simp only [h,show ((1:Int)==1)=true from rfl,cond_true]
  rw [c9a (x:=⟨rs,ps,0,0⟩) hfp,Option.bind_some]
  simp only
  cases hp:a1n ps i.B with
  | some j =>
   have hj:=b8g hp
   simp only [b6M,cond_true,List.getElem?_eq_getElem hj]
   simp only [atI,t9 hj,Option.bind_some,P4 he.len ha]
   rw [u7 na,d8E he.len (by omega)]
   unfold b9A
   rw [hw]
   cases (regs.set i.A.toNat ps[j].c9).all M8<;>rfl
  | none =>
   obtain ⟨b,hb1,hb2,_⟩:=a6B hl hb
   obtain ⟨v,hv1,hv2⟩:=d9g (x:=⟨rs,ps,0,0⟩) hfr i.B
   simp only [b42,cond_false,hv1,hv2,Option.bind_some,hb1,hb2,u7 n1]
   cases hs:Q7 rs i.B
   ·simp only [Bool.not_false,cond_true,cond_false,Option.bind_some,j9.go]
    unfold b4X b8z
    rw [hb1,Option.bind_some,P4 he.len ha,Option.bind_some,u7 na,d4p he.len (by simp; omega),hw]
    cases (regs.set i.A.toNat b.c9).all M8<;>rfl
   ·simp only [Bool.not_true,cond_true,cond_false,Option.bind_some,j9.go]
    unfold b4X b8z
    rw [hb1,Option.bind_some,P4 he.len ha,Option.bind_some,u7 na,d4p he.len (by omega),hw]
    cases (regs.set i.A.toNat b.c9).all M8<;>rfl
 ·have nb:i.B<4:=by omega
  simp only [h,show ((2:Int)==1)=false from rfl,show ((2:Int)==2)=true from rfl,cond_true,cond_false]
  rw [c9a (x:=⟨rs,ps,0,0⟩) hfp,Option.bind_some]
  simp only
  cases hp:a1n ps i.A with
  | some j =>
   have hj:=b8g hp
   simp only [b6M,cond_true,List.getElem?_eq_getElem hj]
   simp only [atI,t9 hj,Option.bind_some,P4 he.len hb,Int.toNat_natCast]
   rw [u7 nb]
   simp only [Option.bind_some,j9.go]
   exact fin _ _ he.len
  | none =>
   simp only [b42,cond_false,Option.bind_some,P4 he.len hb]
   rw [u7 nb,u7 n2]
   simp only [Option.bind_some,j9.go]
   exact fin _ _ he.len
 ·have na:i.A<4:=by omega
  simp only [h,show ((3:Int)==1)=false from rfl,show ((3:Int)==2)=false from rfl,show ((3:Int)==3)=true from rfl,cond_true,cond_false,P4 he.len ha,Option.bind_some]
  rw [u7 na]
  simp only [Option.bind_some,j9.go]
  exact fin _ _ (hset _ _)
 ·have na:i.A<4:=by omega
  have nb:i.B<4:=by omega
  simp only [h,show ((4:Int)==1)=false from rfl,show ((4:Int)==2)=false from rfl,show ((4:Int)==3)=false from rfl,show ((4:Int)==4)=true from rfl,cond_true,cond_false,P4 he.len ha,P4 he.len hb,Option.bind_some,(b6c (a5m he.len he.rng ha) (a5m he.len he.rng hb)).1,u7 na,u7 nb,j9.go]
  exact fin _ _ (hset _ _)
 ·have na:i.A<4:=by omega
  have nb:i.B<4:=by omega
  simp only [h,show ((5:Int)==1)=false from rfl,show ((5:Int)==2)=false from rfl,show ((5:Int)==3)=false from rfl,show ((5:Int)==4)=false from rfl,show ((5:Int)==5)=true from rfl,cond_true,cond_false,P4 he.len ha,P4 he.len hb,Option.bind_some,(b6c (a5m he.len he.rng ha) (a5m he.len he.rng hb)).2,u7 na,u7 nb,j9.go]
  exact fin _ _ (hset _ _)
 ·exact absurd h h6
 ·exact absurd h h7
theorem e03 (hl:E0 l=true) {prog:List m5} (hp:H7 prog=true) (R:List n5) (P:List m8) : ∀ (f k:Nat) (regs:List Int) (rs:List n5) (ps:List m8),EI regs rs ps k→prog.length<k+f→k≤prog.length+10 →
  ((q7 (fun s:(List Int)×(List n5)×(List m8)×(List n5)×(List m8)×Int=>a33 l prog s.1 s.2.1 s.2.2.1 s.2.2.2.1 s.2.2.2.2.1 s.2.2.2.2.2) (regs,R,P,rs,ps,(k:Int))).bind fun x=>x.go (fun r=>some r) fun s=>b2G s.1 s.2.1 s.2.2.1 s.2.2.2.1 s.2.2.2.2)=some (a5b l prog f k regs rs ps):=by
 obtain ⟨hlen,hins⟩:=b9l hp
 have stop : ∀ (k:Nat) (regs:List Int) (rs:List n5) (ps:List m8),EI regs rs ps k→prog.length≤k→k≤prog.length+10→((q7 (fun s:(List Int)×(List n5)×(List m8)×(List n5)×(List m8)×Int=>a33 l prog s.1 s.2.1 s.2.2.1 s.2.2.2.1 s.2.2.2.2.1 s.2.2.2.2.2) (regs,R,P,rs,ps,(k:Int))).bind fun x=>x.go (fun r=>some r) fun s=>b2G s.1 s.2.1 s.2.2.1 s.2.2.2.1 s.2.2.2.2)=some ⟨rs,ps,M2 regs 0,0⟩:=by
  intro k regs rs ps he h1 h2
  have h3:=he.rl
  have h4:=he.pl
  rw [G5 (b:=(R,P,regs,rs,ps))]
  ·simp only [Option.bind_some,j9.go]
   unfold b2G
   rw [b3e (by omega),Option.bind_some,d9S (by omega),Option.bind_some,P4 he.len (a:=0) (by omega),Option.bind_some,u7 (by decide)]
  ·unfold a33
   rw [show decide ((k:Int)<(prog.length:Int))=false from by simp; omega]
   rfl
 intro f
 induction f with
 | zero =>
  intro k regs rs ps he hf hk
  exact stop k regs rs ps he (by omega) hk
 | succ f ih =>
  intro k regs rs ps he hf hk
  by_cases hlt:k<prog.length
  ·have hi:=hins _ (List.getElem_mem hlt)
   unfold a5b
   rw [List.getElem?_eq_getElem hlt]
   simp only
   by_cases h6:prog[k].b7=6
   ·obtain ⟨ha,hb,hn⟩:(0≤prog[k].A∧prog[k].A≤3)∧(0≤prog[k].B∧prog[k].B≤3)∧1≤prog[k].N∧prog[k].N≤10:=by
     rcases a8F hi with ⟨h,_⟩ | ⟨h,_⟩ | ⟨h,_⟩ | ⟨h,_⟩ | ⟨h,_⟩ | ⟨h,x⟩ | ⟨h,_⟩
     all_goals first | (exact x) | (exfalso; omega)
    have hrl:=he.rl
    have hb1:a33 l prog regs R P rs ps (k:Int)=some (.nxt (regs,R,P,rs,ps,((bif decide (M2 regs prog[k].A<M2 regs prog[k].B) then k+prog[k].N.toNat+1 else k+1:Nat):Int))):=by
     have na:prog[k].A<4:=by omega
     have nb:prog[k].B<4:=by omega
     unfold a33
     rw [x9 _ k hlt,t9 hlt]
     simp only [cond_true,Option.bind_some,h6,show ((6:Int)==1)=false from rfl,show ((6:Int)==2)=false from rfl,show ((6:Int)==3)=false from rfl,show ((6:Int)==4)=false from rfl,show ((6:Int)==5)=false from rfl,show ((6:Int)==6)=true from rfl,cond_false,P4 he.len ha,P4 he.len hb,u7 na,u7 nb]
     cases decide (M2 regs prog[k].A<M2 regs prog[k].B)
     ·simp only [cond_false,Option.bind_some,j9.go]
      unfold b1f b39
      rw [c24 he.len (by omega),he.rng,D4 (by omega) (by omega)]
      rfl
     ·simp only [cond_true,Option.bind_some,j9.go]
      unfold b1f b39
      rw [c24 he.len (by omega),he.rng,D4 (n:=(k:Int)+prog[k].N) (by omega) (by omega),D4 (by omega) (by omega),show ((k+prog[k].N.toNat+1:Nat):Int)=(k:Int)+prog[k].N+1 from by omega]
      rfl
    rw [M5 hb1,h6]
    simp only [show ((6:Int)==6)=true from rfl,cond_true]
    refine ih _ _ _ _ ⟨he.len,he.rng,?_,?_⟩ ?_ ?_
    all_goals
     have h1:=he.rl
     have h2:=he.pl
     cases decide (M2 regs prog[k].A<M2 regs prog[k].B)<;>simp only [cond_true,cond_false]<;>omega
   by_cases h7:prog[k].b7=7
   ·have hrl:=he.rl
    have hb1:a33 l prog regs R P rs ps (k:Int)=some (.ret ⟨rs,[],0,1⟩):=by
     unfold a33
     rw [x9 _ k hlt,t9 hlt]
     simp only [cond_true,Option.bind_some,h7,show ((7:Int)==1)=false from rfl,show ((7:Int)==2)=false from rfl,show ((7:Int)==3)=false from rfl,show ((7:Int)==4)=false from rfl,show ((7:Int)==5)=false from rfl,show ((7:Int)==6)=false from rfl,show ((7:Int)==7)=true from rfl,cond_false]
     rw [b3e (by omega)]
     rfl
    rw [a2A hb1,h7]
    rfl
   ·have hb1:=d84 hl he (by omega) hlt hlen R P hi h6 h7
    rw [show (prog[k].b7==6)=false from by simpa using h6,show (prog[k].b7==7)=false from by simpa using h7,cond_false,cond_false]
    cases hall:(M4 l prog[k] regs rs ps).1.all M8
    ·rw [hall,cond_false] at hb1
     rw [a2A hb1]
     rfl
    ·rw [hall,cond_true] at hb1
     rw [M5 hb1,cond_true]
     exact ih _ _ _ _ (he.next hall) (by omega) (by omega)
  ·rw [d5I l (by omega)]
   exact stop k regs rs ps he (by omega) hk
theorem d6V {l:List l9} {prog:List m5} (hl:s8 l) (hp:s8 prog):b4y l prog=some (D6 l prog):=by
 unfold b4y D6
 rw [b1H hl,Option.bind_some,c0Q hp,Option.bind_some]
 cases hb:E0 l
 ·rfl
 cases ho:H7 prog
 ·rfl
 rw [Bool.not_true,cond_false,cond_false]
 exact e03 hb ho [] [] (prog.length+1) 0 [0,0,0,0] [] [] ei0 (by omega) (by omega)
end
theorem b72 {l:List l7} (hl:l.length≤40) (he:l.all A6=true) {k:Nat} (hk:k≤l.length):(u9 l (q8 l).2 k).length≤40:=by
 obtain ⟨_,hlen,hc⟩:=a1q hl he l.length (Nat.le_refl _)
 rw [List.take_length] at hlen hc
 have h1:=c5f hlen k hk
 have h2:=c8Y ((q8 l).2.take k) 0
 rw [List.length_take] at h2
 omega
theorem d9q {l:List l7} (h:B9 88 a2o l):b6W l=some (z8 l):=by
 unfold b6W z8
 rw [d0V h,Option.bind_some]
 cases hok:I9 l
 ·rfl
 have hf:s8 l:=h.fits (by decide)
 obtain ⟨hl,he⟩:=a2j hok
 obtain ⟨_,hlen,hc⟩:=a1q hl he l.length (Nat.le_refl _)
 rw [List.take_length] at hlen hc
 rw [Bool.not_true,cond_false,cond_true,b8V,Option.bind_some]
 have hloop:=a1j (body:=fun s:(List n9)×(List l9)×Int×Int×List n3=>a7E l s.1 s.2.1 s.2.2.1 s.2.2.2.1 s.2.2.2.2) (fun k=>(u9 l (q8 l).2 k,(q8 (l.take k)).1.d7,(k:Int),(q8 (l.take k)).1.At,(q8 (l.take k)).1.f0)) l.length (by
  intro k hk
  have hk2:k<(q8 l).2.length:=by omega
  have hs:=b72 hl he (k:=k) (by omega)
  obtain ⟨h1,h2,h3⟩:=a1q hl he k (by omega)
  have n1:((u9 l (q8 l).2 k).length+1) * 16≤140737488355328:=by omega
  have hcode:=d4l hl he hk
  rw [List.getElem?_eq_getElem hk2] at hcode
  have hcode:=Option.some.inj hcode
  show a7E l (u9 l (q8 l).2 k) (q8 (l.take k)).1.d7 (k:Int) (q8 (l.take k)).1.At (q8 (l.take k)).1.f0=some (.nxt (u9 l (q8 l).2 k++b22 l (q8 l).2 k,(q8 (l.take (k+1))).1.d7,((k+1:Nat):Int),(q8 (l.take (k+1))).1.At,(q8 (l.take (k+1))).1.f0))
  rw [b5r hk hk2,a4n hk,hcode]
  unfold a7E c4e
  rw [x9 _ k hk,t9 hk,J2 hf hk]
  simp only [cond_true,Option.bind_some]
  rw [show (⟨(q8 (l.take k)).1.At,(q8 (l.take k)).1.d7,(q8 (l.take k)).1.f0⟩:o9)=(q8 (l.take k)).1 from rfl,b8R h1 (by omega) (List.all_eq_true.1 he _ (List.getElem_mem hk)) (h.2 _ (List.getElem_mem hk)),Option.bind_some,u7 n1]
  cases (apply (q8 (l.take k)).1 l[k]).2==0
  ·simp only [cond_false,Option.bind_some,j9.go,List.append_nil]
   rfl
  ·rfl)
 rw [List.take_zero,List.take_length,show u9 l (q8 l).2 0=[] from rfl,show ((0:Nat):Int)=0 from rfl] at hloop
 rw [show q7 (fun s:(List n9)×(List l9)×Int×Int×List n3=>a7E l s.1 s.2.1 s.2.2.1 s.2.2.2.1 s.2.2.2.2) (([]:List n9),U0.d7,0,U0.At,U0.f0)=_ from hloop,G5 (b:=u9 l (q8 l).2 l.length)]
 ·rfl
 ·unfold a7E
  rw [B0]; rfl
theorem c9e (l:List l7):s8 (z8 l):=by
 unfold z8
 cases hok:I9 l
 ·simp [s8]
 ·obtain ⟨hl,he⟩:=a2j hok
  have:=b72 hl he (Nat.le_refl _)
  show s8 (u9 l (q8 l).2 l.length)
  unfold s8
  omega
def K6 (l:List l9) (p:List m5):List l9×Int×Int:=bif (D6 l p).Code==3 then ([],0,3) else (b3D l (D6 l p).a8,(D6 l p).c9,(D6 l p).Code)
theorem b6S {l:List l9} {p:List m5} (hl:E0 l=true) (hp:s8 p):Ran (D6 l p):=by
 obtain ⟨r,h1,h2,_⟩:=e37 (a3w hl) hp
 rw [c1C (a3w hl) hp] at h1
 injection h1 with h1
 rw [h1]
 exact h2 hl
theorem Ran.f {r:m9} (h:Ran r):a2U r:=by
 have h1:=h.rlen
 have h2:=h.plen
 exact ⟨⟨by omega,fun _ _=>trivial⟩,⟨by omega,fun _ _=>trivial⟩,trivial⟩
theorem Ran.puts {r:m9} (h:Ran r) : ∀ p∈r.a8,a3J p:=by
 have:=h.ok
 rw [a9U] at this
 simp only [Bool.and_eq_true] at this
 exact (b1M.1 this.2.2.2.2.2).1
theorem d0G {l:List l9} {p:List m5} (hl:E0 l=false):(D6 l p).Code=3:=by
 unfold D6
 rw [hl]
 rfl
theorem d0B {l:List l9} (h:E0 l=true):b3C l=some l:=by
 have:=a9f h
 unfold b3C
 rw [u7 (by simp; omega)]
 rfl
theorem e1W {l:List l9} {p:List m5} (hl:s8 l) (hp:s8 p):b67 l p=some (K6 l p):=by
 unfold b67 K6
 rw [c1C hl hp,Option.bind_some]
 cases hc:(D6 l p).Code==3
 ·have hb:E0 l=true:=by
   cases hb:E0 l
   ·rw [d0G hb] at hc; cases hc
   ·rfl
  have hr:=b6S hb hp
  simp only [cond_false,d0B hb,Option.bind_some,d5S hb hr.f hr.puts]
 ·rfl
theorem d8k {l:List l9} {p:List m5} (hl:s8 l) (hp:s8 p):b4w l p=some (K6 l p):=by
 unfold b4w K6
 rw [d6V hl hp,Option.bind_some]
 cases hc:(D6 l p).Code==3
 ·have hb:E0 l=true:=by
   cases hb:E0 l
   ·rw [d0G hb] at hc; cases hc
   ·rfl
  have hr:=b6S hb hp
  simp only [cond_false,Option.bind_some,c9i hb hr.f hr.ok]
 ·rfl
theorem b9s {l:List l9} {p:List m5} (hl:E0 l=true) (hp:s8 p) (h:((K6 l p).2.2==3)=false):E0 (K6 l p).1=true:=by
 have hr:=b6S hl hp
 unfold K6 at h ⊢
 cases hc:(D6 l p).Code==3
 ·rw [cond_false]
  exact b7h hl hr.puts
 ·rw [hc,cond_true] at h
  cases h
def a62:List (List m5)→List l9→List Int→List l9×List Int
 | [],b,vs=>(b,vs)
 | p::ps,b,vs=>bif (K6 b p).2.2==3 then ([],[]) else a62 ps (K6 b p).1 (vs++[(K6 b p).2.1])
def F8 (l:List l9) (z9:List (List m5)):List l9×List Int:=bif E0 l&&decide (z9.length≤100) then a62 z9 l [] else ([],[])
theorem e8P {z9:List (List m5)} (hp : ∀ p∈z9,s8 p) (hn:z9.length≤100) : ∀ (m k:Nat) (b:List l9) (vs:List Int),k+m=z9.length→E0 b=true→vs.length=k →
  ((q7 (fun s:(List Int)×(List l9)×Int=>a9r z9 s.1 s.2.1 s.2.2) (vs,b,(k:Int))).bind fun x=>x.go (fun r=>some r) fun s=>c3n s.1 s.2)=some (a62 (z9.drop k) b vs):=by
 intro m
 induction m with
 | zero =>
  intro k b vs hk hb hv
  have:k=z9.length:=by omega
  subst this
  rw [List.drop_length,G5 (b:=(vs,b))]
  ·rfl
  ·unfold a9r
   simp only [B0]
   rfl
 | succ m ih =>
  intro k b vs hk hb hv
  have hlt:k<z9.length:=by omega
  have hpk:=hp _ (List.getElem_mem hlt)
  have n1:(vs.length+1) * 8≤140737488355328:=by omega
  have hw:n8 ((k:Int)+1)=((k+1:Nat):Int):=by rw [D4 (by omega) (by omega)]; rfl
  have hb1:a9r z9 vs b (k:Int)=some (bif (K6 b z9[k]).2.2==3 then .ret ([],[]) else .nxt (vs++[(K6 b z9[k]).2.1],(K6 b z9[k]).1,((k+1:Nat):Int))):=by
   unfold a9r
   simp only [x9 _ k hlt,t9 hlt,cond_true,Option.bind_some,e1W (a3w hb) hpk,u7 n1,hw]
   cases (K6 b z9[k]).2.2==3<;>rfl
  rw [List.drop_eq_getElem_cons hlt]
  unfold a62
  cases hc:(K6 b z9[k]).2.2==3
  ·rw [hc,cond_false] at hb1
   rw [M5 hb1,cond_false]
   exact ih (k+1) _ _ (by omega) (b9s hb hpk hc) (by simp; omega)
  ·rw [hc,cond_true] at hb1
   rw [a2A hb1]
   rfl
theorem d7O {l:List l9} {z9:List (List m5)} (hl:s8 l) (hp : ∀ p∈z9,s8 p):b6r l z9=some (F8 l z9):=by
 unfold b6r F8
 rw [b8f hl,Option.bind_some]
 cases hb:E0 l
 ·rfl
 rw [Bool.not_true,cond_false,Bool.true_and]
 by_cases hn:z9.length≤100
 ·have h1 : ¬ ((z9.length:Int)>100):=by omega
  rw [decide_eq_false h1,cond_false,decide_eq_true hn,cond_true,d0B hb,Option.bind_some]
  have:=e8P hp hn z9.length 0 l [] (by omega) hb rfl
  rwa [List.drop_zero] at this
 ·have h1:(z9.length:Int)>100:=by omega
  rw [decide_eq_true h1,decide_eq_false hn]
  rfl
theorem d9s {l:List Int} (h:l.length≤1000):b69 l=some l:=by
 unfold b69
 cases hl:((l.length:Int)==0)
 ·rw [cond_false,u7 (by constructor<;>omega),u7 (by simp)]
 ·simp only [beq_iff_eq] at hl
  have:l=[]:=List.eq_nil_of_length_eq_zero (by omega)
  rw [this]; rfl
theorem e76 {z9:List (List m5)} (hp : ∀ p∈z9,s8 p) (hn:z9.length≤100) : ∀ (m k:Nat) (b:List l9) (vs:List Int),k+m=z9.length→E0 b=true→vs.length=k →
  ((q7 (fun s:(List Int)×Int×List l9=>b0H z9 s.1 s.2.1 s.2.2) (vs,(k:Int),b)).bind fun x=>x.go (fun r=>some r) fun s=>b4Q s.1 s.2)=some (a62 (z9.drop k) b vs):=by
 intro m
 induction m with
 | zero =>
  intro k b vs hk hb hv
  have:k=z9.length:=by omega
  subst this
  rw [List.drop_length,G5 (b:=(vs,b))]
  ·simp only [Option.bind_some,j9.go]
   unfold b4Q
   rw [d9s (by omega)]
   rfl
  ·unfold b0H
   simp only [B0]
   rfl
 | succ m ih =>
  intro k b vs hk hb hv
  have hlt:k<z9.length:=by omega
  have hpk:=hp _ (List.getElem_mem hlt)
  have n1:(vs.length+1) * 8≤140737488355328:=by omega
  have hw:n8 ((k:Int)+1)=((k+1:Nat):Int):=by rw [D4 (by omega) (by omega)]; rfl
  have hb1:b0H z9 vs (k:Int) b=some (bif (K6 b z9[k]).2.2==3 then .ret ([],[]) else .nxt (vs++[(K6 b z9[k]).2.1],((k+1:Nat):Int),(K6 b z9[k]).1)):=by
   unfold b0H
   simp only [x9 _ k hlt,t9 hlt,cond_true,Option.bind_some,d8k (a3w hb) hpk,u7 n1,hw]
   cases (K6 b z9[k]).2.2==3<;>rfl
  rw [List.drop_eq_getElem_cons hlt]
  unfold a62
  cases hc:(K6 b z9[k]).2.2==3
  ·rw [hc,cond_false] at hb1
   rw [M5 hb1,cond_false]
   exact ih (k+1) _ _ (by omega) (b9s hb hpk hc) (by simp; omega)
  ·rw [hc,cond_true] at hb1
   rw [a2A hb1]
   rfl
theorem e0t {l:List l9} {z9:List (List m5)} (hl:s8 l) (hp : ∀ p∈z9,s8 p):b5k l z9=some (F8 l z9):=by
 unfold b5k F8
 rw [b1H hl,Option.bind_some]
 cases hb:E0 l
 ·rfl
 rw [Bool.not_true,cond_false,Bool.true_and]
 by_cases hn:z9.length≤100
 ·have h1 : ¬ ((z9.length:Int)>100):=by omega
  rw [decide_eq_false h1,cond_false,decide_eq_true hn,cond_true,c4K (by rw [a9f hb]; decide),Option.bind_some]
  have:=e76 hp hn z9.length 0 l [] (by omega) hb rfl
  rwa [List.drop_zero] at this
 ·have h1:(z9.length:Int)>100:=by omega
  rw [decide_eq_true h1,decide_eq_false hn]
  rfl
def b5b (w:m3) (q:n9):Option r9:=w.Asked.find? fun a=>(([a.a5.b9,a.a5.Seq]:List Int)==[q.b9,q.Seq])
def a1m (w:m3) (q:n9):List m5×Bool:=match b5b w q with
 | some a=>(a.i4,true)
 | none=>([],false)
theorem d6O {l:List m5} (h:l.length * 32≤140737488351232):b76 l=some l:=by
 unfold b76
 cases hl:((l.length:Int)==0)
 ·rw [cond_false,u7 (by constructor<;>omega),u7 (by simp)]
 ·simp only [beq_iff_eq] at hl
  have:l=[]:=List.eq_nil_of_length_eq_zero (by omega)
  rw [this]; rfl
theorem c5x {w:m3} (h:Z3 w) {a:r9} (ha:a∈w.Asked):a.i4.length * 32≤140737488351232:=(h.2.2.1.2 a ha).2.1
theorem d3Y {w:m3} (h:Z3 w) (q:n9):b3Z w q=some (a1m w q):=by
 have hf:s8 w.Asked:=h.2.2.1.fits (by decide)
 unfold b3Z a1m b5b
 rw [b24 w.Asked hf (fun a=>(([a.a5.b9,a.a5.Seq]:List Int)==[q.b9,q.Seq])) (fun a=>(a.i4,true)) ()]
 ·cases w.Asked.find? (fun a=>(([a.a5.b9,a.a5.Seq]:List Int)==[q.b9,q.Seq]))<;>rfl
 ·intro k hk
  have:=c5x h (List.getElem_mem hk)
  unfold b8X
  rw [x9 _ k hk,t9 hk]
  simp only [cond_true,Option.bind_some]
  rw [u7 (by simp; omega)]
  cases (([w.Asked[k].a5.b9,w.Asked[k].a5.Seq]:List Int)==[q.b9,q.Seq])<;>rfl
 ·unfold b8X
  rw [B0]; rfl
theorem c8v {w:m3} (h:Z3 w) (q:n9):b2L w q=some (a1m w q):=by
 have hf:s8 w.Asked:=h.2.2.1.fits (by decide)
 unfold b2L a1m b5b
 rw [b24 w.Asked hf (fun a=>(([a.a5.b9,a.a5.Seq]:List Int)==[q.b9,q.Seq])) (fun a=>(a.i4,true)) ()]
 ·cases w.Asked.find? (fun a=>(([a.a5.b9,a.a5.Seq]:List Int)==[q.b9,q.Seq]))<;>rfl
 ·intro k hk
  have:=c5x h (List.getElem_mem hk)
  unfold b5E
  rw [x9 _ k hk,t9 hk]
  simp only [cond_true,Option.bind_some,d6O this]
  cases (([w.Asked[k].a5.b9,w.Asked[k].a5.Seq]:List Int)==[q.b9,q.Seq])<;>rfl
 ·unfold b5E
  rw [B0]; rfl
theorem d0S {w:m3} (h:Z3 w) (q:n9):s8 (a1m w q).1:=by
 unfold a1m b5b
 cases hf:w.Asked.find? (fun a=>(([a.a5.b9,a.a5.Seq]:List Int)==[q.b9,q.Seq])) with
 | none=>simp [s8]
 | some a =>
  have:=c5x h (List.mem_of_find?_eq_some hf)
  show a.i4.length≤_
  omega
def a4B (w:m3):List n9→List (List m5)→Option (List (List m5))
 | [],o=>some o
 | q::qs,o=>bif (a1m w q).2 then a4B w qs (o++[(a1m w q).1]) else none
theorem c44 {w:m3} (h:Z3 w) : ∀ {qs:List n9} {o ps:List (List m5)},a4B w qs o=some ps→(∀ p∈o,s8 p) → ∀ p∈ps,s8 p
 | [],o,ps,hs,ho=>by
  injection hs with hs
  subst hs
  exact ho
 | q::qs,o,ps,hs,ho=>by
  unfold a4B at hs
  cases hq:(a1m w q).2
  ·rw [hq] at hs; cases hs
  ·rw [hq,cond_true] at hs
   refine c44 h hs fun p hp => ?_
   rcases List.mem_append.1 hp with hp | hp
   ·exact ho p hp
   ·rw [List.mem_singleton.1 hp]
    exact d0S h q
theorem e5p {w:m3} (h:Z3 w) {l:List n9} (hl:l.length≤1000) : ∀ (m k:Nat) (o:List (List m5)),k+m=l.length→o.length=k →
  ((q7 (fun s:(List (List m5))×Int=>a6O w l s.1 s.2) (o,(k:Int))).bind fun x=>x.go (fun r=>some r) fun s=>c4b s)=some (match a4B w (l.drop k) o with | some ps=>(ps,true) | none=>([],false)):=by
 intro m
 induction m with
 | zero =>
  intro k o hk ho
  have:k=l.length:=by omega
  subst this
  rw [List.drop_length,G5 (b:=o)]
  ·rfl
  ·unfold a6O
   simp only [B0]
   rfl
 | succ m ih =>
  intro k o hk ho
  have hlt:k<l.length:=by omega
  have n1:(o.length+1) * 24≤140737488355328:=by omega
  have hw:n8 ((k:Int)+1)=((k+1:Nat):Int):=by rw [D4 (by omega) (by omega)]; rfl
  have hb1:a6O w l o (k:Int)=some (bif (a1m w l[k]).2 then .nxt (o++[(a1m w l[k]).1],((k+1:Nat):Int)) else .ret ([],false)):=by
   unfold a6O
   simp only [x9 _ k hlt,t9 hlt,cond_true,Option.bind_some,d3Y h,u7 n1,hw]
   cases (a1m w l[k]).2<;>rfl
  rw [List.drop_eq_getElem_cons hlt]
  unfold a4B
  cases hc:(a1m w l[k]).2
  ·rw [hc,cond_false] at hb1
   rw [a2A hb1]
   rfl
  ·rw [hc,cond_true] at hb1
   rw [M5 hb1,cond_true]
   exact ih (k+1) _ (by omega) (by simp; omega)
def a8j (a b:List l9):Bool:=(a.length==b.length)&&(List.range a.length).all fun k=>match a[k]?,b[k]? with
 | some x,some y=>(([x.i6,x.c9]:List Int)==[y.i6,y.c9])
 | _,_=>false
theorem d6I {a b:List l9} (h:s8 a):b8p a b=some (a8j a b):=by
 unfold b8p a8j
 rw [a8U]
 cases hl:a.length==b.length
 ·rfl
 have hl:a.length=b.length:=by simpa using hl
 rw [Bool.not_true,cond_false,Bool.true_and,a2I a h (fun k=>match a[k]?,b[k]? with | some x,some y=>(([x.i6,x.c9]:List Int)==[y.i6,y.c9]) | _,_=>false) false ()]
 ·cases (List.range a.length).all _<;>rfl
 ·intro k hk _
  unfold b8B
  rw [x9 _ k hk,t9 hk,t9 (hl▸hk),List.getElem?_eq_getElem hk,List.getElem?_eq_getElem (hl▸hk)]
  simp only [cond_true,Option.bind_some]
  cases (([a[k].i6,a[k].c9]:List Int)==[(b[k]'(hl▸hk)).i6,(b[k]'(hl▸hk)).c9])<;>rfl
 ·unfold b8B
  rw [B0]; rfl
theorem e7u {a b:List l9} (h:s8 a):b4G a b=some (a8j a b):=by
 unfold b4G c1p a8j
 rw [a8U]
 cases hl:a.length==b.length
 ·rfl
 have hl:a.length=b.length:=by simpa using hl
 rw [Bool.not_true,cond_false,Bool.true_and,a2I a h (fun k=>match a[k]?,b[k]? with | some x,some y=>(([x.i6,x.c9]:List Int)==[y.i6,y.c9]) | _,_=>false) false ()]
 ·cases (List.range a.length).all _<;>rfl
 ·intro k hk _
  unfold b86
  rw [x9 _ k hk,t9 hk,t9 (hl▸hk),List.getElem?_eq_getElem hk,List.getElem?_eq_getElem (hl▸hk)]
  simp only [cond_true,Option.bind_some]
  cases (([a[k].i6,a[k].c9]:List Int)==[(b[k]'(hl▸hk)).i6,(b[k]'(hl▸hk)).c9])<;>rfl
 ·unfold b86
  rw [B0]; rfl
theorem e7W {s:o9} {e:l7} (h:e.g8=true):(apply s e).2=5:=by
 unfold apply
 rw [h]
 rfl
theorem d3w {l:List l7} (hl:l.length≤40) (he:l.all A6=true) : ∀ k,k≤l.length → ∀ q∈u9 l (q8 l).2 k,∃ e∈l,J5 q e=true
 | 0,_,q,hq=>by cases hq
 | k+1,hk,q,hq=>by
  have h1:k<l.length:=by omega
  have hlen:=(a1q hl he l.length (Nat.le_refl _)).2.1
  rw [List.take_length] at hlen
  have h2:k<(q8 l).2.length:=by omega
  unfold u9 at hq
  rcases List.mem_append.1 hq with hq | hq
  ·exact d3w hl he k (by omega) q hq
  ·rw [b5r h1 h2] at hq
   cases hc:(q8 l).2[k]==0
   ·rw [hc] at hq; cases hq
   ·rw [hc,cond_true,List.mem_singleton] at hq
    refine ⟨l[k],List.getElem_mem h1,?_⟩
    have hco:=d4l hl he h1
    rw [List.getElem?_eq_getElem h2] at hco
    have hco:=Option.some.inj hco
    rw [hq]
    unfold J5
    cases hn:l[k].g8
    ·simp
    ·rw [e7W hn] at hco
     rw [hco] at hc
     cases hc
theorem e2F {l:List l7} {q:n9} (hq:q∈z8 l) : ∃ i,∃ h:i<l.length,l.findIdx? (J5 q)=some i:=by
 unfold z8 at hq
 cases hok:I9 l
 ·rw [hok] at hq; cases hq
 ·rw [hok,cond_true] at hq
  obtain ⟨hl,he⟩:=a2j hok
  obtain ⟨e,h1,h2⟩:=d3w hl he _ (Nat.le_refl _) q hq
  cases hf:l.findIdx? (J5 q) with
  | none =>
   have:=(List.findIdx?_eq_none_iff.1 hf) e h1
   rw [h2] at this
   cases this
  | some i=>exact ⟨i,(List.findIdx?_eq_some_iff_getElem.1 hf).1,rfl⟩
def a3K (l:List l7) (q:n9):Int:=match l.findIdx? (J5 q) with
 | some k=>(match l[k]? with | some e=>e.a9.c9 | none=>0)
 | none=>0
theorem e2D {l:List l7} (h:s8 l) (q:n9):b04 l q=some (a3K l q):=c9Q h q
def b9L (l:List l7) (done:List n9) (a3y:List Int):Bool:=(List.range done.length).all fun i=>match a3y[i]?,done[i]? with
 | some v,some q=>v==a3K l q
 | _,_=>false
def a0O:List l9:=List.replicate 4 ⟨0,0⟩
def c3T (l:List l7) (ps:List (List m5)):Bool :=
 ((F8 a0O ps).2.length==(z8 l).length)&&(a8j (F8 a0O ps).1 (q8 l).1.d7&&b9L l (z8 l) (F8 a0O ps).2)
def a26 (w:m3):Bool:=E1 w&&match a4B w (z8 (C5 w)) [] with
 | some ps=>c3T (C5 w) ps
 | none=>false
theorem b9k:E0 a0O=true:=by decide
theorem d2h : ∀ {ps:List (List m5)} {b:List l9} {vs:List Int},E0 b=true→(∀ p∈ps,s8 p)→s8 (a62 ps b vs).1
 | [],b,vs,hb,_=>a3w hb
 | p::ps,b,vs,hb,hp=>by
  unfold a62
  cases hc:(K6 b p).2.2==3
  ·rw [cond_false]
   exact d2h (b9s hb (hp p (by simp)) hc) fun q hq=>hp q (by simp [hq])
  ·simp [s8]
theorem d0L {ps:List (List m5)} (hp : ∀ p∈ps,s8 p):s8 (F8 a0O ps).1:=by
 unfold F8
 cases (E0 a0O&&decide (ps.length≤100))
 ·simp [s8]
 ·exact d2h b9k hp
theorem e47 {w:m3} (h:Z3 w) {lg:List l7} {l:List n9} (hl:l.length≤1000) : ∀ (m k:Nat) (o:List (List m5)),k+m=l.length→o.length=k →
  ((q7 (fun s:(List (List m5))×Int=>a6e w l s.1 s.2) (o,(k:Int))).bind fun x=>x.go (fun r=>some r) fun s=>b16 lg l s)=(match a4B w (l.drop k) o with | some ps=>b16 lg l ps | none=>some false):=by
 intro m
 induction m with
 | zero =>
  intro k o hk ho
  have:k=l.length:=by omega
  subst this
  rw [List.drop_length,G5 (b:=o)]
  ·rfl
  ·unfold a6e
   simp only [B0]
   rfl
 | succ m ih =>
  intro k o hk ho
  have hlt:k<l.length:=by omega
  have n1:(o.length+1) * 24≤140737488355328:=by omega
  have hw:n8 ((k:Int)+1)=((k+1:Nat):Int):=by rw [D4 (by omega) (by omega)]; rfl
  have hb1:a6e w l o (k:Int)=some (bif (a1m w l[k]).2 then .nxt (o++[(a1m w l[k]).1],((k+1:Nat):Int)) else .ret false):=by
   unfold a6e
   simp only [x9 _ k hlt,t9 hlt,cond_true,Option.bind_some,c8v h,u7 n1,hw]
   cases (a1m w l[k]).2<;>rfl
  rw [List.drop_eq_getElem_cons hlt]
  unfold a4B
  cases hc:(a1m w l[k]).2
  ·rw [hc,cond_false] at hb1
   rw [a2A hb1]
   rfl
  ·rw [hc,cond_true] at hb1
   rw [M5 hb1,cond_true]
   exact ih (k+1) _ (by omega) (by simp; omega)
theorem d6w:b3R=some a0O:=rfl
theorem e6r:b3Y=some a0O:=rfl
theorem c7a {w:m3} (h:Z3 w) (hw:E1 w=true):B9 88 H2 (C5 w)∧I9 (C5 w)=true∧b1d w=some (C5 w)∧a81 w=some (C5 w):=by
 obtain ⟨h0,hlo,hok⟩:=d0F h hw
 exact ⟨hlo,hok,d0I h h0,c60 h h0⟩
theorem e43 {w:m3} (h:Z3 w):b5K w=some (a26 w):=by
 unfold b5K a26
 rw [b33 h,Option.bind_some]
 cases hw:E1 w
 ·rfl
 obtain ⟨hlo,hok,hs,hi⟩:=c7a h hw
 obtain ⟨hl,he⟩:=a2j hok
 have hf:=okEntries.f hlo
 have hfl:s8 (C5 w):=hlo.fits (by decide)
 have hd:(z8 (C5 w)).length≤40:=by
  unfold z8
  rw [hok]
  exact b72 hl he (Nat.le_refl _)
 have hdf:s8 (z8 (C5 w)):=c9e _
 simp only [Bool.not_true,cond_false,hs,Option.bind_some,d9q hf,Bool.true_and]
 have hpg:=e5p h (l:=z8 (C5 w)) (by omega) (z8 (C5 w)).length 0 [] (by omega) rfl
 rw [List.drop_zero] at hpg
 unfold c3R
 rw [show q7 (fun s:(List (List m5))×Int=>a6O w (z8 (C5 w)) s.1 s.2) (([]:List (List m5)),0)=q7 (fun s:(List (List m5))×Int=>a6O w (z8 (C5 w)) s.1 s.2) (([]:List (List m5)),((0:Nat):Int)) from rfl,hpg,Option.bind_some]
 cases hps:a4B w (z8 (C5 w)) [] with
 | none=>rfl
 | some ps =>
  have hpf:=c44 h hps (by simp)
  simp only [Bool.not_true,cond_false,d6w,Option.bind_some,d7O (a3w b9k) hpf,a8U]
  unfold c3T
  cases hle:(F8 a0O ps).2.length==(z8 (C5 w)).length
  ·rfl
  have hle:(F8 a0O ps).2.length=(z8 (C5 w)).length:=by simpa using hle
  simp only [Bool.not_true,cond_false,c9M hf hok,Option.bind_some,d6I (d0L hpf),Bool.true_and]
  cases a8j (F8 a0O ps).1 (q8 (C5 w)).1.d7
  ·rfl
  simp only [Bool.not_true,cond_false,Bool.true_and]
  unfold b9L
  rw [a2I (z8 (C5 w)) hdf (fun i=>match (F8 a0O ps).2[i]?,(z8 (C5 w))[i]? with | some v,some q=>v==a3K (C5 w) q | _,_=>false) false ()]
  ·cases (List.range (z8 (C5 w)).length).all _<;>rfl
  ·intro k hk _
   unfold b8L
   rw [x9 _ k hk,t9 hk,t9 (hle▸hk),List.getElem?_eq_getElem hk,List.getElem?_eq_getElem (hle▸hk)]
   simp only [cond_true,Option.bind_some,e2D hfl]
   rw [bne]
   cases ((F8 a0O ps).2[k]'(hle▸hk))==a3K (C5 w) (z8 (C5 w))[k]<;>rfl
  ·unfold b8L
   rw [B0]; rfl
theorem e77 {w:m3} (h:Z3 w):b7J w=some (a26 w):=by
 unfold b7J a26
 rw [b9W h,Option.bind_some]
 cases hw:E1 w
 ·rfl
 obtain ⟨hlo,hok,hs,hi⟩:=c7a h hw
 obtain ⟨hl,he⟩:=a2j hok
 have hf:=okEntries.f hlo
 have hfl:s8 (C5 w):=hlo.fits (by decide)
 have hd:(z8 (C5 w)).length≤40:=by
  unfold z8
  rw [hok]
  exact b72 hl he (Nat.le_refl _)
 have hdf:s8 (z8 (C5 w)):=c9e _
 simp only [Bool.not_true,cond_false,hi,Option.bind_some,e3Z hf,Bool.true_and]
 have hpg:=e47 h (lg:=C5 w) (l:=z8 (C5 w)) (by omega) (z8 (C5 w)).length 0 [] (by omega) rfl
 rw [List.drop_zero] at hpg
 rw [show q7 (fun s:(List (List m5))×Int=>a6e w (z8 (C5 w)) s.1 s.2) ([],0)=q7 (fun s:(List (List m5))×Int=>a6e w (z8 (C5 w)) s.1 s.2) ([],((0:Nat):Int)) from rfl,hpg]
 cases hps:a4B w (z8 (C5 w)) [] with
 | none=>rfl
 | some ps =>
  have hpf:=c44 h hps (by simp)
  simp only
  unfold b16
  simp only [e6r,Option.bind_some,e0t (a3w b9k) hpf,e5i hf,hok,cond_true,e7u (d0L hpf),a8U]
  unfold c3T
  cases a8j (F8 a0O ps).1 (q8 (C5 w)).1.d7
  ·simp
  cases hle:(F8 a0O ps).2.length==(z8 (C5 w)).length
  ·rfl
  have hle:(F8 a0O ps).2.length=(z8 (C5 w)).length:=by simpa using hle
  simp only [Bool.not_true,cond_false,Bool.true_and]
  unfold b9L
  rw [a2I (z8 (C5 w)) hdf (fun i=>match (F8 a0O ps).2[i]?,(z8 (C5 w))[i]? with | some v,some q=>v==a3K (C5 w) q | _,_=>false) false ()]
  ·cases (List.range (z8 (C5 w)).length).all _<;>rfl
  ·intro k hk _
   obtain ⟨i,hi,hfi⟩:=e2F (List.getElem_mem hk)
   unfold b5p a3K
   rw [x9 _ k hk,t9 hk,t9 (hle▸hk),List.getElem?_eq_getElem hk,List.getElem?_eq_getElem (hle▸hk)]
   simp only [cond_true,Option.bind_some,d3c hfl,hfi,t9 hi,List.getElem?_eq_getElem hi]
   rw [bne]
   cases ((F8 a0O ps).2[k]'(hle▸hk))==(C5 w)[i].a9.c9<;>rfl
  ·unfold b5p
   rw [B0]; rfl
def e9r (a b:m6):Bool := !(decide (a.b5>0)&&((a.b5==b.b5) && !a05 a.i0 b.i0))
def other (a b:j3):Bool := !(decide (a.b5>0)&&(a.b5==b.b5))
theorem d7B (a b:n9):(([a.b9,a.Seq]:List Int)==[b.b9,b.Seq])=(H0 a==H0 b):=rfl
def a4i (l:List m7) (i:Nat):Bool:=match l[i]? with
 | some t=>(List.range i).all fun k=>match l[k]? with
  | some s => !(H0 s.a5==H0 t.a5)
  | none=>true
 | none=>true
theorem e0a {l:List m7} {i:Nat} (h:i<l.length):a4i l i = !((l.take i).any fun s=>H0 s.a5==H0 l[i].a5):=by
 unfold a4i
 rw [List.getElem?_eq_getElem h]
 simp only
 rw [Bool.eq_iff_iff,List.all_eq_true,Bool.not_eq_true',List.any_eq_false]
 constructor
 ·intro hh s hs
  obtain ⟨k,hk,rfl⟩:=List.getElem_of_mem hs
  rw [List.length_take] at hk
  have:=hh k (by simp; omega)
  rw [List.getElem?_eq_getElem (by omega)] at this
  simpa using this
 ·intro hh k hk
  have hk:k<i:=by simpa using hk
  rw [List.getElem?_eq_getElem (show k<l.length by omega)]
  have:=hh l[k] (List.mem_take_iff_getElem.2 ⟨k,by omega,rfl⟩)
  simpa using this
def b7g (l:List m7):Bool:=(List.range l.length).all (a4i l)
theorem d6x {w:m3} (h:Z3 w):b2O w=some (b7g w.Told&&E1 w):=by
 have hf:s8 w.Told:=h.2.2.2.fits (by decide)
 have hl:=hf
 unfold s8 at hl
 unfold b2O
 rw [a2I w.Told hf (a4i w.Told) false ()]
 ·unfold b7g
  cases (List.range w.Told.length).all (a4i w.Told)
  ·rfl
  ·simp only [cond_true,Option.bind_some,j9.go]
   unfold b9I
   rw [b33 h]
   rfl
 ·intro i hi _
  unfold b5S
  rw [x9 _ i hi,cond_true]
  have hc:=a4G (body:=fun s:Int=>b1I w (i:Int) s) (fun k=>(k:Int)) i (fun k=>match w.Told[k]? with | some s => !(H0 s.a5==H0 w.Told[i].a5) | none=>true) (fun _=>false) () (by
   intro k hk _
   have hkl:k<w.Told.length:=by omega
   unfold b1I
   rw [show decide ((k:Int)<(i:Int))=true from by simpa using hk,cond_true,t9 hkl,Option.bind_some,t9 hi,Option.bind_some,d7B,List.getElem?_eq_getElem hkl,J2 hf hkl]
   simp only
   cases H0 w.Told[k].a5==H0 w.Told[i].a5<;>rfl) (by
   intro _
   unfold b1I
   rw [show decide ((i:Int)<(i:Int))=false from by simp]
   rfl)
  rw [show ((0:Nat):Int)=0 from rfl] at hc
  unfold a4i
  rw [List.getElem?_eq_getElem hi]
  simp only
  rcases hc with ⟨hc,hall⟩ | ⟨k,hk,ho,_,hc⟩
  ·rw [hc,show (List.range i).all (fun k=>match w.Told[k]? with | some s => !(H0 s.a5==H0 w.Told[i].a5) | none=>true)=true from List.all_eq_true.2 fun k hk=>hall k (by simpa using hk)]
   rfl
  ·rw [hc,show (List.range i).all (fun k=>match w.Told[k]? with | some s => !(H0 s.a5==H0 w.Told[i].a5) | none=>true)=false from List.all_eq_false.2 ⟨k,by simpa using hk,by rw [ho]; simp⟩]
   rfl
 ·unfold b5S
  rw [B0]; rfl
theorem e5r {l:List n9} {y:n9} (h:(l.any fun x=>H0 y==H0 x)=false):a8O H0 l y=l++[y]:=by
 unfold a8O
 rw [if_neg (by rw [h]; simp)]
theorem e62 {w:m3} (h:Z3 w):b2u w=some (E1 w&&b7g w.Told):=by
 have hf:s8 w.Told:=h.2.2.2.fits (by decide)
 unfold b2u
 rw [b9W h,Option.bind_some]
 cases E1 w
 ·rfl
 rw [Bool.not_true,cond_false,Bool.true_and]
 have hc:=a4G (body:=fun s:(List n9)×Int=>b4t w s.1 s.2) (fun k=>((w.Told.take k).map (·.a5),(k:Int))) w.Told.length (a4i w.Told) (fun _=>false) () (by
  intro k hk _
  unfold b4t
  simp only [x9 _ k hk,cond_true,t9 hk,Option.bind_some,J2 hf hk]
  have he:(((w.Told.take k).map (·.a5)).any fun x=>H0 w.Told[k].a5==H0 x) = !a4i w.Told k:=by
   rw [e0a hk,Bool.not_not,List.any_map]
   congr 1
   funext s
   show (H0 w.Told[k].a5==H0 s.a5)=_
   rw [Bool.eq_iff_iff,beq_iff_eq,beq_iff_eq]
   exact eq_comm
  rw [he]
  cases ho:a4i w.Told k
  ·rfl
  ·rw [ho] at he
   rw [e5r he,List.take_succ_eq_append_getElem hk,List.map_append]
   rfl) (by
  intro _
  unfold b4t
  simp only [B0]
  rfl)
 rw [List.take_zero,List.map_nil,show ((0:Nat):Int)=0 from rfl] at hc
 unfold b7g
 rcases hc with ⟨hc,hall⟩ | ⟨k,hk,ho,_,hc⟩
 ·rw [hc,show (List.range w.Told.length).all (a4i w.Told)=true from List.all_eq_true.2 fun k hk=>hall k (by simpa using hk)]
  rfl
 ·rw [hc,show (List.range w.Told.length).all (a4i w.Told)=false from List.all_eq_false.2 ⟨k,by simpa using hk,by rw [ho]; simp⟩]
  rfl
def eN:l7:=⟨true,⟨0,0⟩,⟨[],[],0,0⟩⟩
def v0:m6:=⟨0,zE⟩
def b2b (b:Int):Bool:=p7 b 1 3000
def a0g (a:A4) (b:Int):Option A4:=bif b2b b&&decide (a.g7≤b) then some ⟨b,a.a0⟩ else none
def a3H (vs:List m6) (n:Nat):List m6:=vs++List.replicate (n - vs.length) v0
def a0K (a:A4) (b D2:Int) (e:l7):Option A4 :=
 bif p7 D2 0 39&&A6 e then (a0g a b).map fun x=>⟨x.g7,(a3H x.a0 (D2.toNat+1)).set D2.toNat ⟨b,e⟩⟩ else none
def O0:List m6→List m6→List m6
 | [],b=>b
 | a,[]=>a
 | x::a,y::b=>(bif decide (y.b5>x.b5) then y else x)::O0 a b
def a1E (b who:Int):Int :=
 bif decide (b+1≤3000)&&(Int.tmod (b+1) 3==who) then b+1 else
 bif decide (b+2≤3000)&&(Int.tmod (b+2) 3==who) then b+2 else
 bif decide (b+3≤3000)&&(Int.tmod (b+3) 3==who) then b+3 else -1
def b5P (n:j3):j3:={ n with d8:=0,b5:=0,b6:=[],i5:=[],d6:=zE,a0:=[] }
def b3m (n:j3):j3:={ n with i7:=false,i4:=[],c8:=zE }
def a0D (l:List l7) (q:n9):Bool:=l.any (J5 q)
def b2W (id:Int):List Bool:=(List.replicate 3 false).set id.toNat true
def two (l:List Bool):Bool:=decide (2≤(l.filter (· == true)).length)
def a0r (id:Int) (m:j7):List j7:=(([0,1,2]:List Int).filter (· != id)).map fun t=>{ m with b6:=id,To:=t }
def a5l (m out:j7):j7:={ out with b6:=m.To,To:=m.b6 }
def a2y (n:j3) (b:Int):j3:=bif n.d8 != 0&&decide (b>n.b5) then b5P n else n
def a1M (known:List l7):List l7→List l7×Option l7
 | []=>([],none)
 | e::q=>bif a0D known e.a5 then a1M known q else (q,some e)
def a7T (n:j3):j3×Option l7 :=
 bif (n.i5.drop n.a6.length).any (fun v=>decide (v.b5>0)) then (n,some eN)
 else bif n.i7 && !a0D n.a6 n.c8.a5 then (n,some n.c8)
 else ({ n with b8:=(a1M n.a6 n.b8).1 },(a1M n.a6 n.b8).2)
def a4H (n:j3):j3×Option l7:=match n.i5[n.a6.length]? with
 | some v=>bif decide (v.b5>0) then (n,some v.i0) else a7T n
 | none=>a7T n
def b2y (x:j3) (e:l7):j3×List j7:=match a0K x.Acc x.b5 (x.a6.length:Int) e with
 | some a=>({ x with Acc:=a,d8:=3,d6:=e,a0:=b2W x.Id },a0r x.Id ⟨3,0,0,x.b5,(x.a6.length:Int),e,[]⟩)
 | none=>(b5P x,[])
def a1C (n:j3):j3×List j7 :=
 bif n.d8 != 2||decide (40≤n.a6.length) then (n,[]) else match a4H n with
  | (x,some e)=>b2y x e
  | (x,none)=>(x,[])
def a2B (n:j3):j3×List m7 :=
 bif n.i7 then (match n.a6.findIdx? (J5 n.c8.a5) with
  | some k=>(b3m n,[⟨n.Id,n.c8.a5,a0A n.a6 k,bif a0A n.a6 k==0 then a3K n.a6 n.c8.a5 else 0⟩])
  | none=>(n,[]))
 else (n,[])
def a1o (n:j3) (e:l7):j3 :=
 bif n.d8==3 then { n with a6:=n.a6++[e],d8:=2,d6:=zE,a0:=[] } else { n with a6:=n.a6++[e] }
def a4s (n:j3) (e:l7):j3×List j7×List m7 :=
 ((a1C (a2B (a1o n e)).1).1,(a1C (a2B (a1o n e)).1).2,(a2B (a1o n e)).2)
def a73 (n:j3) (m:j7):j3×List j7:=match a0g n.Acc m.b5 with
 | some a=>(a2y { n with Acc:=a } m.b5,[a5l m ⟨2,0,0,m.b5,m.g9,zE,a.a0.drop m.g9.toNat⟩])
 | none=>(n,[a5l m ⟨6,0,0,n.Acc.g7,0,zE,[]⟩])
def a7w (n:j3) (m:j7):j3×List j7:=match a0K n.Acc m.b5 m.g9 m.i0 with
 | some a=>(a2y { n with Acc:=a } m.b5,[a5l m ⟨4,0,0,m.b5,m.g9,zE,[]⟩])
 | none=>(n,[a5l m ⟨6,0,0,n.Acc.g7,0,zE,[]⟩])
def a7O (n:j3) (m:j7):j3×List j7 :=
 bif n.d8 != 1||m.b5 != n.b5 then (n,[]) else
 bif two (n.b6.set m.b6.toNat true) then
  a1C { n with b6:=[],i5:=O0 n.i5 (List.replicate m.g9.toNat v0++m.a0),d8:=2 }
 else ({ n with b6:=n.b6.set m.b6.toNat true,i5:=O0 n.i5 (List.replicate m.g9.toNat v0++m.a0) },[])
def a9j (n:j3) (m:j7):j3×List j7×List m7 :=
 bif n.d8 != 3||(m.b5 != n.b5||m.g9 != (n.a6.length:Int)) then (n,[],[]) else
 bif two (n.a0.set m.b6.toNat true) then
  ((a4s { n with a0:=n.a0.set m.b6.toNat true } n.d6).1,a0r n.Id ⟨5,0,0,0,(n.a6.length:Int),n.d6,[]⟩++(a4s { n with a0:=n.a0.set m.b6.toNat true } n.d6).2.1,(a4s { n with a0:=n.a0.set m.b6.toNat true } n.d6).2.2)
 else ({ n with a0:=n.a0.set m.b6.toNat true },[],[])
def b1u (n:j3) (m:j7):j3×List j7×List m7 :=
 bif decide (m.g9<(n.a6.length:Int)) then (n,[],[]) else
 bif decide (m.g9>(n.a6.length:Int)) then (n,[a5l m ⟨8,0,0,0,(n.a6.length:Int),zE,[]⟩],[])
 else a4s n m.i0
def a7G (n:j3) (m:j7):j3×List j7 :=
 bif n.d8==0||(decide (4≤n.b8.length)||a0D n.a6 m.i0.a5) then (n,[]) else a1C { n with b8:=n.b8++[m.i0] }
def a4t (n:j3) (m:j7) (s:Nat):List j7:=match n.a6[s]? with
 | some e=>[a5l m ⟨5,0,0,0,(s:Int),e,[]⟩]
 | none=>[]
def a8c (n:j3) (m:j7):List j7:=((List.range (n.a6.length - m.g9.toNat)).map fun j=>a4t n m (m.g9.toNat+j)).flatten
def a4k (n:j3) (m:j7):j3×List j7×List m7 :=
 bif m.b7==1 then ((a73 n m).1,(a73 n m).2,[]) else
 bif m.b7==2 then ((a7O n m).1,(a7O n m).2,[]) else
 bif m.b7==3 then ((a7w n m).1,(a7w n m).2,[]) else
 bif m.b7==4 then a9j n m else
 bif m.b7==5 then b1u n m else
 bif m.b7==6 then (a2y { n with Acc:=(a0g n.Acc m.b5).getD n.Acc } m.b5,[],[]) else
 bif m.b7==7 then ((a7G n m).1,(a7G n m).2,[]) else
 bif m.b7==8 then (n,a8c n m,[]) else (n,[],[])
def a12 (n:j3) (prog:List m5):j3×List j7 :=
 bif n.i7||(n.Seq==1000||(D6 (q8 n.a6).1.d7 prog).Code==3) then (n,[]) else
 bif n.d8==2 then a1C { n with Seq:=n.Seq+1,i7:=true,i4:=prog,c8:=⟨false,⟨n.Id,n.Seq+1⟩,D6 (q8 n.a6).1.d7 prog⟩ }
 else ({ n with Seq:=n.Seq+1,i7:=true,i4:=prog,c8:=⟨false,⟨n.Id,n.Seq+1⟩,D6 (q8 n.a6).1.d7 prog⟩ },
  bif n.d8==0 then a0r n.Id ⟨7,0,0,0,0,⟨false,⟨n.Id,n.Seq+1⟩,D6 (q8 n.a6).1.d7 prog⟩,[]⟩ else [])
def a56 (n:j3):j3×List j7 :=
 bif decide (a1E n.Acc.g7 n.Id<0) then (n,[]) else
 ({ b5P n with Acc:=⟨a1E n.Acc.g7 n.Id,n.Acc.a0⟩,d8:=1,b5:=a1E n.Acc.g7 n.Id,b6:=b2W n.Id,i5:=n.Acc.a0 },
  a0r n.Id ⟨1,0,0,a1E n.Acc.g7 n.Id,(n.a6.length:Int),zE,[]⟩)
def a5g (n:j3):j3×List j7 :=
 bif n.d8==1 then (n,a0r n.Id ⟨8,0,0,0,(n.a6.length:Int),zE,[]⟩++a0r n.Id ⟨1,0,0,n.b5,(n.a6.length:Int),zE,[]⟩) else
 bif n.d8==2 then ((a1C n).1,a0r n.Id ⟨8,0,0,0,(n.a6.length:Int),zE,[]⟩++(a1C n).2) else
 bif n.d8==3 then (n,a0r n.Id ⟨8,0,0,0,(n.a6.length:Int),zE,[]⟩++a0r n.Id ⟨3,0,0,n.b5,(n.a6.length:Int),n.d6,[]⟩) else
 bif n.i7 then (n,a0r n.Id ⟨8,0,0,0,(n.a6.length:Int),zE,[]⟩++a0r n.Id ⟨7,0,0,0,0,n.c8,[]⟩) else
 (n,a0r n.Id ⟨8,0,0,0,(n.a6.length:Int),zE,[]⟩)
def M7 (id:Int):j3:=⟨id,⟨0,[]⟩,[],0,0,0,[],[],zE,[],false,[],zE,[]⟩
def b2Z (n:j3):j3:={ M7 n.Id with Acc:=n.Acc,a6:=n.a6,Seq:=n.Seq }
def a3o:m3:=⟨[M7 0,M7 1,M7 2],[],[],[]⟩
def a4g (w:m3) (l:List j7):m3:={ w with Net:=w.Net++l.take (40 - w.Net.length) }
def a91 (w:m3) (l:List m7):m3:={ w with Told:=w.Told++l.take (60 - w.Told.length) }
def a3q (w:m3) (i:Int) (n:j3):m3:={ w with Nodes:=w.Nodes.set i.toNat n }
def a58 (w:m3) (i:Int):m3:={ w with Net:=w.Net.take i.toNat++w.Net.drop (i.toNat+1) }
def a1h (w:m3) (i:Int):j3:=w.Nodes.getD i.toNat (M7 0)
def b8k (w:m3) (i:Int) (prog:List m5):m3 :=
 bif decide (60≤w.Asked.length) then w else
 a4g (a3q (bif decide ((a12 (a1h w i) prog).1.Seq>(a1h w i).Seq) then { w with Asked:=w.Asked++[⟨(a12 (a1h w i) prog).1.c8.a5,prog⟩] } else w) i (a12 (a1h w i) prog).1) (a12 (a1h w i) prog).2
def b2g (w:m3) (e:n6):m3:=bif decide (0≤e.A) then (match w.Net[e.A.toNat]? with
 | some m=>bif e.b7==4 then a4g w [m] else bif e.b7==3 then a58 w e.A else
  a91 (a4g (a3q (a58 w e.A) m.To (a4k (a1h w m.To) m).1) (a4k (a1h w m.To) m).2.1) (a4k (a1h w m.To) m).2.2
 | none=>w) else w
def K1 (w:m3) (e:n6):m3 :=
 bif e.b7==2||(e.b7==3||e.b7==4) then b2g w e else
 bif !p7 e.A 0 2 then w else
 bif e.b7==1 then b8k w e.A e.i4 else
 bif e.b7==5 then a4g (a3q w e.A (a56 (a1h w e.A)).1) (a56 (a1h w e.A)).2 else
 bif e.b7==6 then a4g (a3q w e.A (a5g (a1h w e.A)).1) (a5g (a1h w e.A)).2 else
 bif e.b7==7 then a3q w e.A (b2Z (a1h w e.A)) else w
def a8m (w:m3) (l:List n6):m3:=l.foldl K1 w
theorem a1t:L1 0:=⟨by decide,by decide⟩
theorem a0s {α:Type} {b:Nat} {ok:α→Prop}:B9 b ok ([]:List α):=⟨by simp,fun x hx=>by cases hx⟩
theorem a2u:H2 zE:=⟨⟨a1t,a1t⟩,a0s,a0s,a1t,a1t⟩
theorem d3N:H2 eN:=⟨⟨a1t,a1t⟩,a0s,a0s,a1t,a1t⟩
theorem d9Z:a0F v0:=⟨a1t,a2u⟩
theorem a7X {α R B:Type} {body:List α×Int→Option (j5 R (List α×Int) B)} (l:List α) (hl:s8 l) (f:List α→B)
  (h1 : ∀ (k:Nat) (h:k<l.length),body (l.take k,(k:Int))=some (.nxt (l.take k++[l[k]],n8 ((k:Int)+1))))
  (h2:body (l,(l.length:Int))=some (.brk (f l))):q7 body ([],0)=some (.brk (f l)):=by
 have h:=a1j (body:=body) (fun k=>(l.take k,(k:Int))) l.length (by
  intro k hk
  rw [h1 k hk,J2 hl hk,List.take_succ_eq_append_getElem hk])
 rw [show ((0:Nat):Int)=0 from rfl,List.take_zero] at h
 rw [h,List.take_length]
 exact G5 h2
theorem b5J {l:List m6} (h:B9 96 a0F l):a8f l=some l:=by
 have hf:s8 l:=h.fits (by decide)
 have hb:=h.1
 unfold a8f
 rw [a7X (body:=fun s:(List m6)×Int=>b1Z l s.1 s.2) l hf (fun l=>l) (by
  intro k hk
  unfold b1Z
  rw [x9 _ k hk,t9 hk]
  simp only [cond_true,Option.bind_some,a1Z (h.2 _ (List.getElem_mem hk)).2]
  rw [u7 (by rw [List.length_take]; omega)]) (by
  unfold b1Z
  rw [B0]; rfl)]
 rfl
theorem d65 {l:List m6} (h:B9 96 a0F l):b4B l=some (l,l):=by
 have hf:s8 l:=h.fits (by decide)
 have hb:=h.1
 unfold b4B
 rw [a7X (body:=fun s:(List m6)×Int=>b1T l s.1 s.2) l hf (fun l=>l) (by
  intro k hk
  unfold b1T
  rw [x9 _ k hk,t9 hk]
  simp only [cond_true,Option.bind_some,a1Z (h.2 _ (List.getElem_mem hk)).2]
  rw [u7 (by rw [List.length_take]; omega)]) (by
  unfold b1T
  rw [B0]; rfl)]
 rfl
theorem e6P {e:l7} (h:H2 e):b6b e=some e:=by
 have h1:=h.2.1.1
 have h2:=h.2.2.1.1
 unfold b6b c0A
 rw [u7 (by simp; omega),u7 (by simp; omega)]
 rfl
theorem d7R {l:List m6} (h:B9 96 a0F l):b7G l=some l:=by
 have hf:s8 l:=h.fits (by decide)
 have hb:=h.1
 unfold b7G
 rw [a7X (body:=fun s:(List m6)×Int=>b15 l s.1 s.2) l hf (fun l=>l) (by
  intro k hk
  unfold b15
  rw [x9 _ k hk,t9 hk]
  simp only [cond_true,Option.bind_some,e6P (h.2 _ (List.getElem_mem hk)).2]
  rw [u7 (by rw [List.length_take]; omega)]) (by
  unfold b15
  rw [B0]; rfl)]
 rfl
theorem b65 {m:j7} (h:a3f m):a79 m=some m:=by
 unfold a79
 rw [a1Z h.2.2.2.2.2.1,Option.bind_some,b5J h.2.2.2.2.2.2]
 rfl
theorem b2Y {α:Type} {b:Nat} {ok:α→Prop} {l:List α} (h:B9 b ok l):(([]:List α).length+l.length) * b≤140737488355328:=by
 have:=h.1
 simp only [List.length_nil,Nat.zero_add]; omega
theorem b2q {n:j3} (h:a0G n):a6o n=some n:=by
 obtain ⟨h1,h2,h3,h4,h5,h6,h7,h8,h9,h10,h11,h12,h13⟩:=h
 unfold a6o c1v
 rw [b5J h2.2,Option.bind_some,Option.bind_some,c3A h3,Option.bind_some,u7 (b2Y h7),b5J h8,Option.bind_some,a1Z h9,Option.bind_some,u7 (b2Y h10),u7 (b2Y h11),a1Z h12,Option.bind_some,c3A h13]
 rfl
theorem c0K {a:A4} {b:Int}:a9Q a b=match a0g a b with | some _=>none | none=>some (a,false):=by
 unfold a9Q a0g b2b
 rw [a9N,Option.bind_some]
 cases p7 b 1 3000
 ·rfl
 ·by_cases h:b<a.g7
  ·simp [h,show ¬ a.g7≤b by omega]
  ·simp [h,show a.g7≤b by omega]
theorem b5A {a:A4} {b:Int}:a7R a b=some (match a0g a b with | some x=>(x,true) | none=>(a,false)):=by
 unfold a7R a0g b2b
 rw [a9N,Option.bind_some]
 cases p7 b 1 3000
 ·rfl
 ·by_cases h:b<a.g7
  ·simp [h,show ¬ a.g7≤b by omega]
  ·simp [h,show a.g7≤b by omega]
theorem d4a {a:A4} {b s:Int} {e:l7} (he:H2 e):b2V a b s e=match a0K a b s e with | some _=>none | none=>some (a,false):=by
 unfold b2V a0K
 rw [a4D he.f,Option.bind_some,c0K]
 by_cases h1:s<0
 ·simp [h1,p7,show ¬ (0≤s∧s≤39) by omega]
 ·by_cases h2:s≥40
  ·simp [h1,h2,p7,show ¬ (0≤s∧s≤39) by omega]
  ·simp only [h1,h2,decide_false,cond_false,p7,show (0≤s∧s≤39) by omega,and_self,decide_true,Bool.true_and]
   cases A6 e
   ·rfl
   ·simp only [Bool.not_true,cond_false,cond_true]
    cases a0g a b<;>rfl
theorem d13 (D2:Nat) (hs:D2<40) : ∀ (m:Nat) (vs:List m6),D2+1 - vs.length=m→q7 (fun s:List m6=>a7t (D2:Int) s) vs=some (.brk (a3H vs (D2+1)))
 | 0,vs,h=>by
  refine G5 ?_
  unfold a7t a3H
  rw [h,show decide ((vs.length:Int)≤(D2:Int))=false by simp; omega]
  simp
 | m+1,vs,h=>by
  have hb:a7t (D2:Int) vs=some (.nxt (vs++[v0])):=by
   unfold a7t
   rw [show decide ((vs.length:Int)≤(D2:Int))=true by simp; omega,cond_true,u7 (by omega)]
   rfl
  rw [M5 (body:=fun s:List m6=>a7t (D2:Int) s) hb,d13 D2 hs m (vs++[v0]) (by simp; omega)]
  congr 2
  unfold a3H
  rw [h,List.length_append,show D2+1 - (vs.length+[v0].length)=m by simp; omega,List.append_assoc]
  rfl
theorem c53 (vs:List m6) (n:Nat):(a3H vs n).length=max vs.length n:=by
 unfold a3H
 simp; omega
theorem c9p {a:A4} {b s:Int} {e:l7} (he:H2 e):b4n a b s e=some (match a0K a b s e with | some x=>(x,true) | none=>(a,false)):=by
 unfold b4n a0K
 rw [a4D he.f,Option.bind_some,c0K,b5A,Option.bind_some]
 by_cases h1:s<0
 ·simp [h1,p7,show ¬ (0≤s∧s≤39) by omega]
 ·by_cases h2:s≥40
  ·simp [h1,h2,p7,show ¬ (0≤s∧s≤39) by omega]
  ·simp only [h1,h2,decide_false,cond_false,p7,show (0≤s∧s≤39) by omega,and_self,decide_true,Bool.true_and]
   cases A6 e
   ·rfl
   ·simp only [Bool.not_true,cond_false,cond_true]
    cases a0g a b with
    | none=>rfl
    | some x =>
     obtain ⟨k,rfl⟩ : ∃ k:Nat,s=(k:Int):=⟨s.toNat,by omega⟩
     have hk:k<(a3H x.a0 (k+1)).length:=by rw [c53]; omega
     simp only [a5F,Bool.not_true,cond_false,d13 k (by omega) _ _ rfl,Option.bind_some,j9.go,c4Y,a1Z he,t9 hk,Option.map_some,Int.toNat_natCast]
theorem b4U {n:j3} {q:n9} (h:s8 n.a6):a8L n q=some (a0D n.a6 q):=by
  unfold a8L
  rw [show q7 (fun s:Int=>a9p n q s) 0=_ from b24 (body:=fun s:Int=>a9p n q s) n.a6 h (J5 q) (fun _=>true) () (by
      intro k hk
      unfold a9p c1S J5
      rw [x9 _ k hk,t9 hk]
      simp only [cond_true,Option.bind_some]
      cases n.a6[k].g8<;>cases (([n.a6[k].a5.b9,n.a6[k].a5.Seq]:List Int)==[q.b9,q.Seq])<;>rfl) (by
      unfold a9p
      rw [B0]; rfl)]
  unfold a0D
  cases hf:n.a6.find? (J5 q) with
  | none =>
    have:n.a6.any (J5 q)=false:=by
      rw [List.any_eq_false]; intro x hx; exact List.find?_eq_none.1 hf x hx
    rw [this]; rfl
  | some x =>
    have:n.a6.any (J5 q)=true:=List.any_eq_true.2 ⟨x,List.mem_of_find?_eq_some hf,List.find?_some hf⟩
    rw [this]; rfl
def a15 (id:Int) (m:j7) (o:List j7) (t:Int):List j7:=bif t != id then o++[{ m with b6:=id,To:=t }] else o
theorem c7C (id:Int) (m:j7) (o:List j7) (t:Int):(a15 id m o t).length≤o.length+1:=by
 unfold a15; cases t != id<;>simp
theorem a6A {id:Int} (hid:0≤id∧id≤2) {m:j7} (h:a3f m):a3S id m=some (a0r id m):=by
 have e : ∀ (o:List j7) (t:Int),o.length≤3→0≤t→t<3→a5h id m o t=some (.nxt (a15 id m o t,t+1)):=by
  intro o t ho ht0 ht
  unfold a5h b9y a15
  rw [show decide (t<3)=true by simpa using ht,cond_true,b65 h,Option.bind_some,u7 (by omega),D4 (by omega) (by omega)]
  cases t != id<;>rfl
 have l1:=c7C id m [] 0
 have l2:=c7C id m (a15 id m [] 0) (0+1)
 have h0:=M5 (body:=fun s:(List j7)×Int=>a5h id m s.1 s.2) (s:=([],0)) (e [] 0 (by simp) (by omega) (by omega))
 have h1:=M5 (body:=fun s:(List j7)×Int=>a5h id m s.1 s.2) (s:=(a15 id m [] 0,0+1)) (e (a15 id m [] 0) (0+1) (by simp at l1; omega) (by omega) (by omega))
 have h2:=M5 (body:=fun s:(List j7)×Int=>a5h id m s.1 s.2) (s:=(a15 id m (a15 id m [] 0) (0+1),0+1+1)) (e (a15 id m (a15 id m [] 0) (0+1)) (0+1+1) (by simp at l1; omega) (by omega) (by omega))
 have h3:=G5 (body:=fun s:(List j7)×Int=>a5h id m s.1 s.2) (s:=(a15 id m (a15 id m (a15 id m [] 0) (0+1)) (0+1+1),0+1+1+1)) (show a5h id m _ (0+1+1+1)=_ from rfl)
 unfold a3S
 rw [h0,h1,h2,h3]
 obtain rfl | rfl | rfl:id=0∨id=1∨id=2:=by omega
 all_goals rfl
theorem d24 : ∀ (l:List Bool) (hl:s8 l) (m k:Nat) (c:Int),k+m=l.length→0≤c→c≤k→q7 (fun s:Int×Int=>a5U l s.1 s.2) (c,(k:Int))=some (.brk (c+(((l.drop k).filter (· == true)).length:Int)))
 | l,hl,0,k,c,hk,h0,h1=>by
  have:k=l.length:=by omega
  subst this
  refine G5 ?_
  show a5U l c (l.length:Int)=_
  unfold a5U
  rw [B0]; simp
 | l,hl,m+1,k,c,hk,h0,h1=>by
  have hlt:k<l.length:=by omega
  have hfl:(l.length:Int)≤140737488351232:=by have:=hl; unfold s8 at this; omega
  have hb:a5U l c (k:Int)=some (.nxt (c+(bif l[k] then 1 else 0),((k+1:Nat):Int))):=by
   unfold a5U c0g
   rw [x9 _ k hlt,t9 hlt,cond_true,Option.bind_some,J2 hl hlt]
   cases l[k]<;>simp only [cond_true,cond_false,Option.bind_some]<;>rw [D4 (by omega) (by omega)]
  rw [M5 (body:=fun s:Int×Int=>a5U l s.1 s.2) hb,d24 l hl m (k+1) _ (by omega) (by cases l[k]<;>simp<;>omega) (by cases l[k]<;>simp<;>omega),List.drop_eq_getElem_cons hlt]
  cases l[k]<;>simp
  omega
theorem d3x {l:List Bool} (h:s8 l):b3W l=some (two l):=by
 unfold b3W
 rw [show q7 (fun s:Int×Int=>a5U l s.1 s.2) (0,0)=_ from d24 l h l.length 0 0 (by omega) (by omega) (by omega)]
 simp only [Option.bind_some,j9.go,c5g,two,List.drop_zero]
 congr 1
 simp
 omega
theorem e4z {l:List m6} {s:Int} (h:B9 96 a0F l) (hl:l.length≤40) (hs:0≤s∧s≤40):b6j l s=some (List.replicate s.toNat v0++l):=by
 unfold b6j
 rw [u7 (by omega),b5J h,Option.bind_some,u7 (by simp; omega)]
 rfl
theorem b63 : ∀ a b:List m6,(O0 a b).length=max a.length b.length
 | [],b=>by simp [O0]
 | x::a,[]=>by simp [O0]
 | x::a,y::b=>by simp only [O0,List.length_cons,b63 a b]; omega
theorem c2o : ∀ (a b:List m6) (k:Nat),(O0 a b)[k]?=match a[k]?,b[k]? with
  | some x,some y=>some (bif decide (y.b5>x.b5) then y else x)
  | some x,none=>some x
  | none,some y=>some y
  | none,none=>none
 | [],b,k=>by simp [O0]; cases b[k]?<;>rfl
 | x::a,[],k=>by simp [O0]; cases (x::a)[k]?<;>rfl
 | x::a,y::b,0=>by simp [O0]
 | x::a,y::b,k+1=>by simp only [O0,List.getElem?_cons_succ]; exact c2o a b k
theorem c6m {a b:List m6} {v:m6} (h:v∈O0 a b):v∈a∨v∈b:=by
 obtain ⟨k,hk⟩:=List.getElem?_of_mem h
 rw [c2o] at hk
 cases ha:a[k]? with
 | none =>
  cases hb:b[k]? with
  | none=>rw [ha,hb] at hk; cases hk
  | some y=>rw [ha,hb] at hk; injection hk with hk; subst hk; exact .inr (List.mem_of_getElem? hb)
 | some x =>
  cases hb:b[k]? with
  | none=>rw [ha,hb] at hk; injection hk with hk; subst hk; exact .inl (List.mem_of_getElem? ha)
  | some y =>
   rw [ha,hb] at hk
   simp only at hk
   cases hd:decide (y.b5>x.b5)
   ·rw [hd] at hk; injection hk with hk; subst hk; exact .inl (List.mem_of_getElem? ha)
   ·rw [hd] at hk; injection hk with hk; subst hk; exact .inr (List.mem_of_getElem? hb)
theorem e31 {a b:List m6} (ha:B9 96 a0F a) (hb:B9 96 a0F b) (hla:a.length≤80) (hlb:b.length≤80) (hz : ∀ v∈b,v.b5≤0→v=v0):b5R a b=some (O0 a b):=by
 have hlen:=b63 a b
 unfold b5R
 rw [a7X (body:=fun s:(List m6)×Int=>a64 a b s.1 s.2) (O0 a b) (by unfold s8; omega) (fun l=>l) (by
  intro k hk
  have hget:=c2o a b k
  rw [List.getElem?_eq_getElem hk] at hget
  have hent : ∀ v,v∈a∨v∈b→H2 v.i0:=fun v hv=>hv.elim (fun q=>(ha.2 v q).2) (fun q=>(hb.2 v q).2)
  have hj1 : ∀ v:m6,H2 v.i0→b8h ((O0 a b).take k) (k:Int) v=some (.nxt ((O0 a b).take k++[v],n8 ((k:Int)+1))):=by
   intro v hv
   unfold b8h
   rw [a1Z hv,Option.bind_some,u7 (by rw [List.length_take]; omega)]
  show a64 a b ((O0 a b).take k) (k:Int)=_
  have hkk:k<a.length∨k<b.length:=by omega
  have hstart:a64 a b ((O0 a b).take k) (k:Int)=b6m a b ((O0 a b).take k) (k:Int):=by
   unfold a64
   by_cases h1:k<a.length
   ·rw [x9 _ k h1]; rfl
   ·rw [show decide ((k:Int)<(a.length:Int))=false by simp; omega,x9 _ k (by omega)]; rfl
  rw [hstart]
  unfold b6m
  by_cases h1:k<a.length
  ·rw [x9 _ k h1,t9 h1]
   simp only [cond_true,Option.bind_some,j9.go]
   unfold b7l
   rw [List.getElem?_eq_getElem h1] at hget
   by_cases h2:k<b.length
   ·rw [x9 _ k h2,t9 h2]
    rw [List.getElem?_eq_getElem h2] at hget
    simp only [cond_true,Option.bind_some]
    injection hget with hget
    rw [hget]
    cases decide (b[k].b5>a[k].b5)
    ·simp only [cond_false,Option.bind_some,j9.go]
     exact hj1 _ (hent _ (.inl (List.getElem_mem h1)))
    ·simp only [cond_true,Option.bind_some,j9.go]
     exact hj1 _ (hent _ (.inr (List.getElem_mem h2)))
   ·rw [show decide ((k:Int)<(b.length:Int))=false by simp; omega]
    rw [List.getElem?_eq_none (by omega)] at hget
    injection hget with hget
    rw [hget]
    simp only [cond_false,Option.bind_some,j9.go]
    exact hj1 _ (hent _ (.inl (List.getElem_mem h1)))
  ·have h2:k<b.length:=by omega
   rw [show decide ((k:Int)<(a.length:Int))=false by simp; omega]
   simp only [cond_false,Option.bind_some,j9.go]
   unfold b7l
   rw [x9 _ k h2,t9 h2]
   rw [List.getElem?_eq_none (by omega),List.getElem?_eq_getElem h2] at hget
   injection hget with hget
   rw [hget]
   simp only [cond_true,Option.bind_some]
   by_cases h3:b[k].b5>0
   ·rw [show decide (b[k].b5>0)=true by simpa using h3]
    simp only [cond_true,Option.bind_some,j9.go]
    exact hj1 _ (hent _ (.inr (List.getElem_mem h2)))
   ·have hv:=hz _ (List.getElem_mem h2) (by omega)
    rw [show decide (b[k].b5>0)=false by simpa using h3]
    simp only [cond_false,Option.bind_some,j9.go]
    rw [hv]
    exact hj1 v0 a2u) (by
  show a64 a b (O0 a b) ((O0 a b).length:Int)=_
  unfold a64
  rw [show decide (((O0 a b).length:Int)<(a.length:Int))=false by simp; omega,show decide (((O0 a b).length:Int)<(b.length:Int))=false by simp; omega]
  rfl)]
 rfl
theorem d8Z {b who:Int} (hb:0≤b∧b≤3000) (hw:0≤who∧who≤2):b5y b who=some (a1E b who):=by
 have e : ∀ i:Int,1≤i→i≤3→a4A b who (b+i)=some (bif decide (b+i≤3000) then (bif Int.tmod (b+i) 3==who then .ret (b+i) else .nxt (b+(i+1))) else .brk ()):=by
  intro i h1 h3
  unfold a4A
  rw [D4 (by omega) (by omega),show decide (b+i≤b+3)=true by simp; omega,cond_true,D4 (by omega) (by omega),Int.add_assoc]
  cases decide (b+i≤3000)
  ·rfl
  ·cases Int.tmod (b+i) 3==who<;>rfl
 have e4:a4A b who (b+4)=some (.brk ()):=by
  unfold a4A
  rw [D4 (by omega) (by omega),show decide (b+4≤b+3)=false by simp]
  rfl
 have e1:=e 1 (by omega) (by omega)
 have e2:=e 2 (by omega) (by omega)
 have e3:=e 3 (by omega) (by omega)
 unfold b5y a1E
 rw [show decide (b<0)=false by simp; omega,show decide (b>3000)=false by simp; omega,show decide (who<0)=false by simp; omega,show decide (who≥3)=false by simp; omega,D4 (by omega) (by omega)]
 simp only [cond_false]
 have hb4:q7 (fun s:Int=>a4A b who s) (b+4)=some (.brk ()):=G5 e4
 have h3:q7 (fun s:Int=>a4A b who s) (b+3)=some (bif decide (b+3≤3000)&&(Int.tmod (b+3) 3==who) then .ret (b+3) else .brk ()):=by
  cases q:decide (b+3≤3000)
  ·rw [q] at e3; exact G5 e3
  ·rw [q] at e3
   cases t:Int.tmod (b+3) 3==who
   ·rw [t] at e3; rw [M5 e3]; exact hb4
   ·rw [t] at e3; exact a2A e3
 have h2:q7 (fun s:Int=>a4A b who s) (b+2)=some (bif decide (b+2≤3000)&&(Int.tmod (b+2) 3==who) then .ret (b+2) else bif decide (b+3≤3000)&&(Int.tmod (b+3) 3==who) then .ret (b+3) else .brk ()):=by
  cases q:decide (b+2≤3000)
  ·rw [q] at e2
   rw [show decide (b+3≤3000)=false by simp at q ⊢; omega]
   exact G5 e2
  ·rw [q] at e2
   cases t:Int.tmod (b+2) 3==who
   ·rw [t] at e2; rw [M5 e2]; exact h3
   ·rw [t] at e2; exact a2A e2
 have h1:q7 (fun s:Int=>a4A b who s) (b+1)=some (bif decide (b+1≤3000)&&(Int.tmod (b+1) 3==who) then .ret (b+1) else bif decide (b+2≤3000)&&(Int.tmod (b+2) 3==who) then .ret (b+2) else bif decide (b+3≤3000)&&(Int.tmod (b+3) 3==who) then .ret (b+3) else .brk ()):=by
  cases q:decide (b+1≤3000)
  ·rw [q] at e1
   rw [show decide (b+2≤3000)=false by simp at q ⊢; omega,show decide (b+3≤3000)=false by simp at q ⊢; omega]
   exact G5 e1
  ·rw [q] at e1
   cases t:Int.tmod (b+1) 3==who
   ·rw [t] at e1; rw [M5 e1]; exact h2
   ·rw [t] at e1; exact a2A e1
 rw [h1]
 cases decide (b+1≤3000)&&(Int.tmod (b+1) 3==who)<;>cases decide (b+2≤3000)&&(Int.tmod (b+2) 3==who)<;>cases decide (b+3≤3000)&&(Int.tmod (b+3) 3==who)<;>rfl
theorem A7 {n:Int} (h : -1000000000≤n∧n≤1000000000):L1 n:=⟨by omega,by omega⟩
theorem a2i {α:Type} {b:Nat} {ok:α→Prop} {l:List α} (hl:l.length * b≤1000000000) (h : ∀ x∈l,ok x):B9 b ok l:=⟨by omega,h⟩
theorem e5J {α:Type} {b:Nat} {ok:α→Prop} {l l':List α} (h:B9 b ok l) (hl:l'.length≤l.length) (hs : ∀ x∈l',x∈l):B9 b ok l' :=
 ⟨Nat.le_trans (Nat.mul_le_mul_right _ hl) h.1,fun x hx=>h.2 x (hs x hx)⟩
theorem d67 {l:List l7} {q:n9}:a0D l q=(l.findIdx? (J5 q)).isSome:=by
 unfold a0D
 cases h:l.findIdx? (J5 q) with
 | none =>
  rw [List.findIdx?_eq_none_iff] at h
  rw [Option.isSome_none,List.any_eq_false]
  intro x hx; rw [h x hx]; simp
 | some k =>
  rw [List.findIdx?_eq_some_iff_getElem] at h
  obtain ⟨hk,h1,_⟩:=h
  rw [Option.isSome_some]
  exact List.any_eq_true.2 ⟨l[k],List.getElem_mem hk,h1⟩
theorem d6J {n:j3} (h:B9 88 H2 n.a6) (hok:I9 n.a6=true):b6U n=some (a2B n):=by
 obtain ⟨hl,he⟩:=a2j hok
 have hf:s8 n.a6:=h.fits (by decide)
 unfold b6U a2B
 rw [b4U hf,Option.bind_some,d67]
 cases n.i7
 ·rfl
 simp only [Bool.not_true,cond_false,cond_true]
 cases hfi:n.a6.findIdx? (J5 n.c8.a5) with
 | none=>rfl
 | some kk =>
 simp only [Option.isSome_some,Bool.not_true,cond_false,b8V,Option.bind_some]
 have:=a9l (body:=fun s:(List l9)×Int×Int×List n3=>a9k n s.1 s.2.1 s.2.2.1 s.2.2.2) (fun k=>((q8 (n.a6.take k)).1.d7,(k:Int),(q8 (n.a6.take k)).1.At,(q8 (n.a6.take k)).1.f0)) n.a6 (J5 n.c8.a5) (fun k=>(b3m n,[⟨n.Id,n.c8.a5,a0A n.a6 k,bif a0A n.a6 k==0 then (match n.a6[k]? with | some e=>e.a9.c9 | none=>0) else 0⟩])) () (by
   intro k hk
   obtain ⟨h1,h2,h3⟩:=a1q hl he k (by omega)
   unfold a9k c5J J5 a0A
   rw [x9 _ k hk,t9 hk,c3j hl he hk,a4n hk,← J2 hf hk,List.getElem?_eq_getElem hk]
   simp only [cond_true,Option.bind_some]
   rw [show (⟨(q8 (n.a6.take k)).1.At,(q8 (n.a6.take k)).1.d7,(q8 (n.a6.take k)).1.f0⟩:o9)=(q8 (n.a6.take k)).1 from rfl,b8R h1 (by omega) (List.all_eq_true.1 he _ (List.getElem_mem hk)) (h.2 _ (List.getElem_mem hk)).f,Option.bind_some]
   cases n.a6[k].g8<;>cases (([n.a6[k].a5.b9,n.a6[k].a5.Seq]:List Int)==[n.c8.a5.b9,n.c8.a5.Seq])<;>first | rfl | skip
   simp only [cond_false,Bool.not_true,Bool.not_false,Bool.true_and,cond_true,Option.getD_some]
   cases ((apply (q8 (n.a6.take k)).1 n.a6[k]).2==0)<;>rfl) (by
   unfold a9k
   rw [B0]; rfl)
 rw [List.take_zero,hfi] at this
 rw [show q7 (fun s:(List l9)×Int×Int×List n3=>a9k n s.1 s.2.1 s.2.2.1 s.2.2.2) (U0.d7,0,U0.At,U0.f0)=_ from this]
 simp only [Option.bind_some,j9.go,a3K,hfi]
 all_goals rfl
theorem e5n {l:List m6} (hf:s8 l) (k:Nat):b58 l (k:Int)=some ((l.drop k).any fun v=>decide (v.b5>0)):=by
 have key : ∀ (m k:Nat),l.length - k=m→q7 (fun s:Int=>a7B l s) (k:Int)=some (bif (l.drop k).any (fun v=>decide (v.b5>0)) then .ret true else .brk ()):=by
  intro m
  induction m with
  | zero =>
   intro k hk
   rw [List.drop_eq_nil_of_le (by omega)]
   refine G5 ?_
   unfold a7B
   rw [show decide ((k:Int)<(l.length:Int))=false by simp; omega]
   rfl
  | succ m ih =>
   intro k hk
   have hlt:k<l.length:=by omega
   rw [List.drop_eq_getElem_cons hlt,List.any_cons]
   cases hd:decide (l[k].b5>0)
   ·rw [M5 (body:=fun s:Int=>a7B l s) (t:=((k+1:Nat):Int)) (by
     unfold a7B
     rw [x9 _ k hlt,t9 hlt,cond_true,Option.bind_some,hd,J2 hf hlt]; rfl),ih (k+1) (by omega),Bool.false_or]
   ·refine a2A ?_
    unfold a7B
    rw [x9 _ k hlt,t9 hlt,cond_true,Option.bind_some,hd]; rfl
 unfold b58
 rw [key _ k rfl]
 cases (l.drop k).any fun v=>decide (v.b5>0)<;>rfl
theorem c7V (n:j3) (hk:s8 n.a6) : ∀ (q:List l7),B9 88 H2 q→q7 (fun s:List l7=>b00 n s) q=some (match a1M n.a6 q with
  | (q',some e)=>.ret ({ n with b8:=q' },e,true)
  | (q',none)=>.brk q')
 | [],h=>G5 rfl
 | e::q,h=>by
  have hb:=h.1
  rw [List.length_cons,Nat.succ_mul] at hb
  have h':B9 88 H2 q:=⟨by omega,fun x hx=>h.2 x (List.mem_cons_of_mem _ hx)⟩
  have ht:(([]:List l7)++((e::q).drop (0+(1:Int).toNat)).take ((e::q).length - (1:Int).toNat))=q:=by
   simp
  have hs:b00 n (e::q)=some (bif a0D n.a6 e.a5 then .nxt q else .ret ({ n with b8:=q },e,true)):=by
   unfold b00
   rw [show decide (((e::q).length:Int)>0)=true by simp,cond_true,show idx (e::q) 0=some e from rfl,Option.bind_some,u7 (by simp; omega),u7 (by simp; omega),ht,b4U (n:={ n with b8:=q }) hk,Option.bind_some]
   cases a0D n.a6 e.a5<;>rfl
  unfold a1M
  cases hd:a0D n.a6 e.a5
  ·rw [hd] at hs; exact a2A hs
  ·rw [hd] at hs
   rw [M5 (body:=fun s:List l7=>b00 n s) hs]
   exact c7V n hk q h'
def b5U (x:j3×Option l7):j3×l7×Bool:=match x with
 | (n,some e)=>(n,e,true)
 | (n,none)=>(n,zE,false)
theorem e5K {n:j3} (h:a0G n):b6V n=some (b5U (a4H n)):=by
 obtain ⟨h1,h2,h3,h4,h5,h6,h7,h8,h9,h10,h11,h12,h13⟩:=h
 have hk:s8 n.a6:=h3.fits (by decide)
 have j1:b6k n=some (b5U ({ n with b8:=(a1M n.a6 n.b8).1 },(a1M n.a6 n.b8).2)):=by
  unfold b6k
  rw [c7V n hk _ h13]
  obtain ⟨q,o⟩:=a1M n.a6 n.b8
  cases o<;>rfl
 have j2:b8A n=some (b5U (a7T n)):=by
  unfold b8A a7T
  rw [e5n (h8.fits (by decide)),Option.bind_some,b4U hk,a1Z h12]
  generalize (({ n with b8:=(a1M n.a6 n.b8).1 },(a1M n.a6 n.b8).2):j3×Option l7)=X at j1 ⊢
  cases (n.i5.drop n.a6.length).any fun v=>decide (v.b5>0)
  ·simp only [cond_false]
   cases n.i7
   ·exact j1
   ·cases a0D n.a6 n.c8.a5
    ·rfl
    ·exact j1
  ·rfl
 unfold b6V a4H
 by_cases hl:n.a6.length<n.i5.length
 ·rw [x9 _ _ hl,t9 hl,List.getElem?_eq_getElem hl]
  simp only [cond_true,Option.bind_some]
  cases decide (n.i5[n.a6.length].b5>0)
  ·exact j2
  ·simp only [cond_true,a1Z (h8.2 _ (List.getElem_mem hl)).2,Option.bind_some,j9.go]
   rfl
 ·rw [show decide ((n.a6.length:Int)<(n.i5.length:Int))=false by simp; omega,List.getElem?_eq_none (by omega)]
  exact j2
theorem d5k (known:List l7) : ∀ (q:List l7),(a1M known q).1.length≤q.length∧(∀ x∈(a1M known q).1,x∈q) ∧ ∀ e,(a1M known q).2=some e→e∈q∧a0D known e.a5=false∧(a1M known q).1.length<q.length
 | []=>⟨Nat.le_refl _,fun x hx=>hx,fun e he=>by cases he⟩
 | e::q=>by
  unfold a1M
  cases hk:a0D known e.a5
  ·refine ⟨by simp,fun x hx=>by simpa using .inr hx,fun e' he => ?_⟩
   injection he with he
   subst he
   exact ⟨by simp,hk,by simp⟩
  ·obtain ⟨a,b,c⟩:=d5k known q
   refine ⟨by simp only [cond_true,List.length_cons]; omega,fun x hx=>List.mem_cons_of_mem _ (b x hx),fun e' he => ?_⟩
   obtain ⟨x,y,z⟩:=c e' he
   exact ⟨List.mem_cons_of_mem _ x,y,by simp only [cond_true,List.length_cons]; omega⟩
inductive a4E (n:j3):l7→Prop
 | best (v) (h:n.i5[n.a6.length]?=some v) (hb:v.b5>0):a4E n v.i0
 | gap (v) (h:v∈n.i5.drop n.a6.length) (hb:v.b5>0) (hn : ∀ v,n.i5[n.a6.length]?=some v → ¬ v.b5>0):a4E n eN
 | want (h:n.i7=true) (hk:a0D n.a6 n.c8.a5=false) (hn : ∀ v∈n.i5.drop n.a6.length,¬ v.b5>0):a4E n n.c8
 | queue (e) (h:e∈n.b8) (hk:a0D n.a6 e.a5=false) (hn : ∀ v∈n.i5.drop n.a6.length,¬ v.b5>0):a4E n e
theorem c5q (n:j3) : ∃ q:List l7,(a4H n).1={ n with b8:=q }∧q.length≤n.b8.length∧(∀ x∈q,x∈n.b8) ∧ ∀ e,(a4H n).2=some e→a4E n e:=by
 have rest:(∀ v,n.i5[n.a6.length]?=some v → ¬ v.b5>0) → ∃ q:List l7,(a7T n).1={ n with b8:=q }∧q.length≤n.b8.length∧(∀ x∈q,x∈n.b8) ∧ ∀ e,(a7T n).2=some e→a4E n e:=by
  intro hn
  unfold a7T
  cases ha:(n.i5.drop n.a6.length).any fun v=>decide (v.b5>0)
  ·have hnv : ∀ v∈n.i5.drop n.a6.length,¬ v.b5>0:=fun v hv=>by simpa using List.any_eq_false.1 ha v hv
   cases hb:n.i7 && !a0D n.a6 n.c8.a5
   ·obtain ⟨a,b,c⟩:=d5k n.a6 n.b8
    exact ⟨_,rfl,a,b,fun e he=>.queue e (c e he).1 (c e he).2.1 hnv⟩
   ·simp only [Bool.and_eq_true,Bool.not_eq_true'] at hb
    refine ⟨n.b8,rfl,Nat.le_refl _,fun _ h=>h,fun e he => ?_⟩
    injection he with he; subst he
    exact .want hb.1 hb.2 hnv
  ·obtain ⟨v,hv,hb⟩:=List.any_eq_true.1 ha
   refine ⟨n.b8,rfl,Nat.le_refl _,fun _ h=>h,fun e he => ?_⟩
   injection he with he; subst he
   exact .gap v hv (by simpa using hb) hn
 unfold a4H
 cases hg:n.i5[n.a6.length]? with
 | none=>exact rest (by rw [hg]; simp)
 | some v =>
  simp only
  cases hb:decide (v.b5>0)
  ·exact rest (by rw [hg]; intro w hw; injection hw with hw; subst hw; simpa using hb)
  ·refine ⟨n.b8,rfl,Nat.le_refl _,fun _ h=>h,fun e he => ?_⟩
   injection he with he; subst he
   exact .best v hg (by simpa using hb)
theorem a4E.ok {n:j3} (h:a0G n) {e:l7} (hn:a4E n e):H2 e:=by
 cases hn with
 | best v hv hb=>exact (h.2.2.2.2.2.2.2.1.2 v (List.mem_of_getElem? hv)).2
 | gap=>exact d3N
 | want=>exact h.2.2.2.2.2.2.2.2.2.2.2.1
 | queue e hq=>exact h.2.2.2.2.2.2.2.2.2.2.2.2.2 e hq
theorem a8I {k b s:Int} {e:l7} {vs:List m6} (hk:L1 k) (hb:L1 b) (hs:L1 s) (he:H2 e) (hv:B9 96 a0F vs):a3f ⟨k,0,0,b,s,e,vs⟩:=⟨hk,a1t,a1t,hb,hs,he,hv⟩
theorem d22 {id:Int} (h:0≤id∧id≤2) : ∃ y,idx (List.replicate (3:Int).toNat false) id=some y:=by
 obtain rfl | rfl | rfl:id=0∨id=1∨id=2:=by omega
 all_goals exact ⟨false,rfl⟩
theorem b2e {n:j3} (h:a0G n) (hid:0≤n.Id∧n.Id≤2):a7j n=some (a1C n):=by
 unfold a7j a1C
 rw [show decide ((n.a6.length:Int)≥40)=decide (40≤n.a6.length) by simp; omega]
 cases n.d8 != 2
 ·simp only [cond_false,Bool.false_or]
  cases hlt:decide (40≤n.a6.length)
  ·simp only [cond_false,e5K h,Option.bind_some]
   obtain ⟨q,hq,hql,hqm,hqe⟩:=c5q n
   cases hx:a4H n with
   | mk x o =>
   rw [hx] at hq hqe
   have hq:x={ n with b8:=q }:=hq
   cases o with
   | none=>rfl
   | some e =>
    have he:=(hqe e rfl).ok h
    have hlen:n.a6.length<40:=by simpa using hlt
    subst hq
    simp only [b5U,Bool.not_true,cond_false,d4a he,c9p he,b2y]
    cases a0K n.Acc n.b5 (n.a6.length:Int) e with
    | none=>rfl
    | some a =>
     obtain ⟨y,hy⟩:=d22 hid
     simp only [a5F,Option.bind_some,Bool.not_true,cond_false,a1Z he,hy]
     rw [u7 (by omega),a6A hid (a8I (A7 (by omega)) h.2.2.2.2.2.1 (A7 (by omega)) he a0s)]
     rfl
  ·rfl
 ·rfl
theorem e49 {n:j3} (h:a0G n):a0G (b3m n):=by
 obtain ⟨h1,h2,h3,h4,h5,h6,h7,h8,h9,h10,h11,h12,h13⟩:=h
 exact ⟨h1,h2,h3,h4,h5,h6,h7,h8,h9,h10,a0s,a2u,h13⟩
theorem e4m {n:j3} (h:a0G n) {e:l7} (he:H2 e) (hl:n.a6.length≤40):a0G (a1o n e):=by
 obtain ⟨h1,h2,h3,h4,h5,h6,h7,h8,h9,h10,h11,h12,h13⟩:=h
 have hk:B9 88 H2 (n.a6++[e]):=a2i (by simp; omega) (by
  intro x hx
  rcases List.mem_append.1 hx with q | q
  ·exact h3.2 x q
  ·rw [List.mem_singleton.1 q]; exact he)
 unfold a1o
 cases n.d8==3
 ·exact ⟨h1,h2,hk,h4,h5,h6,h7,h8,h9,h10,h11,h12,h13⟩
 ·exact ⟨h1,h2,hk,h4,A7 (n:=2) (by omega),h6,h7,h8,a2u,a0s,h11,h12,h13⟩
theorem b78 (n:j3):(a2B n=(n,[])) ∨ ∃ k,n.i7=true∧n.a6.findIdx? (J5 n.c8.a5)=some k∧a2B n=(b3m n,[⟨n.Id,n.c8.a5,a0A n.a6 k,bif a0A n.a6 k==0 then a3K n.a6 n.c8.a5 else 0⟩]):=by
 unfold a2B
 cases n.i7
 ·exact .inl rfl
 ·cases h:n.a6.findIdx? (J5 n.c8.a5) with
  | none=>exact .inl rfl
  | some k=>exact .inr ⟨k,rfl,rfl,rfl⟩
theorem e2Q {n:j3} (h:a0G n):a0G (a2B n).1:=by
 rcases b78 n with q | ⟨k,_,_,q⟩<;>rw [q]
 ·exact h
 ·exact e49 h
theorem d6k (n:j3):(a2B n).1.Id=n.Id:=by
 rcases b78 n with q | ⟨k,_,_,q⟩<;>rw [q]; rfl
theorem c9S (n:j3) (e:l7):(a1o n e).Id=n.Id:=by
 unfold a1o; cases n.d8==3<;>rfl
theorem e8Y (n:j3) (e:l7):(a1o n e).a6=n.a6++[e]:=by
 unfold a1o; cases n.d8==3<;>rfl
theorem d4A {n:j3} (h:a0G n) (hid:0≤n.Id∧n.Id≤2) (hk:I9 n.a6=true) (hl:n.a6.length<40) {e:l7} (he:H2 e) (hok:A6 e=true):b3l n e=some (a4s n e):=by
 have hkn:=e4m h he (by omega)
 have hko:I9 (a1o n e).a6=true:=by
  rw [e8Y]
  obtain ⟨a,b⟩:=a2j hk
  unfold I9
  simp only [List.length_append,List.length_singleton,List.all_append,List.all_cons,List.all_nil,b,hok,Bool.and_true,Bool.and_self,decide_eq_true_eq]
  omega
 have hj : ∀ (p:Int) (c:l7) (vs:List Bool),(⟨n.Id,n.Acc,n.a6++[e],n.Seq,p,n.b5,n.b6,n.i5,c,vs,n.i7,n.i4,n.c8,n.b8⟩:j3)=a1o n e→b8F n e vs c.a5.b9 c.a5.Seq c.a9.a7 c.a9.a8 c.a9.c9 c.a9.Code p c.g8=some (a4s n e):=by
  intro p c vs hq
  unfold b8F
  rw [show (j3.mk n.Id n.Acc (n.a6++[e]) n.Seq p n.b5 n.b6 n.i5 (l7.mk c.g8 (n9.mk c.a5.b9 c.a5.Seq) (m9.mk c.a9.a7 c.a9.a8 c.a9.c9 c.a9.Code)) vs n.i7 n.i4 n.c8 n.b8)=a1o n e from hq,d6J hkn.2.2.1 hko,Option.bind_some,b2e (e2Q hkn) (by rw [d6k,c9S]; exact hid),Option.bind_some]
  rfl
 unfold b3l
 rw [a1Z he,Option.bind_some,u7 (by omega)]
 cases hp:n.d8==3
 ·exact hj n.d8 n.d6 n.a0 (by unfold a1o; rw [hp]; rfl)
 ·exact hj 2 zE [] (by unfold a1o; rw [hp]; rfl)
theorem d9K {r:m9} (h:a0f r=true):r.a7.length≤4:=by
 have h0:a7U r.a7=true:=by
  rw [a9U] at h
  simp only [Bool.and_eq_true] at h
  exact h.2.2.2.2.1
 obtain ⟨h1,h2⟩:=d3Z.1 h0
 let ps:List m8:=r.a7.map fun x=>⟨x.d9,0⟩
 have hp : ∀ p∈ps,a3J p:=by
  intro p hp
  obtain ⟨x,hx,rfl⟩:=List.mem_map.1 hp
  exact ⟨(h1 x hx).1,(h1 x hx).2.1,by simp,by simp⟩
 have hpw:ps.Pairwise fun p q=>p.d9≠q.d9:=List.pairwise_map.2 h2
 have hl:=b9u hp
 have a:=a6V hpw 0
 have b:=a6V hpw 1
 have c:=a6V hpw 2
 have d:=a6V hpw 3
 have:ps.length=r.a7.length:=List.length_map ..
 omega
theorem e7j {r:m9} (h:a5q r ⟨[],[],0,0⟩=true):r=⟨[],[],0,0⟩:=(d3C _ _).1 h
theorem d8J {e:l7} (h:A6 e=true) (hn:e.g8=true):e=eN:=by
 unfold A6 at h
 rw [hn] at h
 simp only [cond_true,Bool.and_eq_true,beq_iff_eq,List.cons.injEq,and_true] at h
 obtain ⟨⟨h1,h2⟩,h3⟩:=h
 have h4:=e7j h3
 clear h3
 obtain ⟨n,⟨a,b⟩,r⟩:=e
 simp only at hn h1 h2 h4
 subst hn h1 h2 h4
 rfl
theorem e1i {r:m9} (h:a0f r=true):b5s r:=by
 obtain ⟨h1,h2,_,h4,h5⟩:=a8w h
 have r4:=d9K h
 have p4:=e4s h
 exact ⟨a2i (by omega) fun x hx=>by have:=h4 x hx; exact ⟨A7 (by omega),A7 (by omega)⟩,
  a2i (by omega) fun x hx=>by have:=h5 x hx; exact ⟨A7 (by omega),A7 (by omega)⟩,A7 (by omega),A7 (by omega)⟩
theorem a3P {e:l7} (h:A6 e=true):H2 e:=by
 cases hn:e.g8 with
 | true=>rw [d8J h hn]; exact d3N
 | false =>
  obtain ⟨h1,h2,h3,_⟩:=b0N h hn
  exact ⟨⟨A7 (by omega),A7 (by omega)⟩,e1i h3⟩
theorem c81 {l:List l7} (hl:l.length≤1000) (h : ∀ e∈l,A6 e=true):B9 88 H2 l:=a2i (by omega) fun e he=>a3P (h e he)
def VI (v:m6):Prop:=v=v0∨(1≤v.b5∧v.b5≤3000∧A6 v.i0=true)
theorem e0L {v:m6}:a1G v=true↔VI v:=by
 unfold a1G VI
 by_cases hb:v.b5=0
 ·simp only [hb,beq_self_eq_true,cond_true,a5J]
  constructor
  ·intro h; left; obtain ⟨b,e⟩:=v; simp only at hb h; subst hb h; rfl
  ·rintro (h | h)
   ·rw [h]; rfl
   ·omega
 ·have:(v.b5==0)=false:=by simpa using hb
  simp only [this,cond_false,Bool.and_eq_true,Y1]
  constructor
  ·intro h; exact .inr ⟨h.1.1,h.1.2,h.2⟩
  ·rintro (h | h)
   ·rw [h] at hb; exact absurd rfl hb
   ·exact ⟨⟨h.1,h.2.1⟩,h.2.2⟩
theorem VI.ok {v:m6} (h:VI v):a0F v:=by
 rcases h with rfl | ⟨h1,h2,h3⟩
 ·exact d9Z
 ·exact ⟨A7 (by omega),a3P h3⟩
theorem VI.zero {v:m6} (h:VI v) (hb:v.b5≤0):v=v0:=by
 rcases h with rfl | ⟨h1,_⟩
 ·rfl
 ·omega
theorem VI.pos {v:m6} (h:VI v) (hb:v.b5>0):A6 v.i0=true:=by
 rcases h with rfl | ⟨_,_,h⟩
 ·exact absurd hb (by decide)
 ·exact h
theorem a8e {l:List m6} (hl:l.length≤1000) (h : ∀ v∈l,VI v):B9 96 a0F l:=a2i (by omega) fun v hv=>(h v hv).ok
theorem b32 {l:List m6}:R8 l=true↔l.length≤40 ∧ ∀ v∈l,VI v:=by
 unfold R8
 simp only [Bool.and_eq_true,decide_eq_true_eq,List.all_eq_true,e0L]
structure d64 (id bal pr:Int) (best:List m6):Prop where
 b1:1≤bal
 b2:bal≤3000
 mod:Int.tmod bal 3=id
 pr:bal≤pr
 bl:best.length≤40
 bs : ∀ v∈best,VI v
abbrev Own (n:j3):Prop:=d64 n.Id n.b5 n.Acc.g7 n.i5
def a3Z (n:j3):Prop :=
 (n.d8=0∧n.b5=0∧n.b6=[]∧n.i5=[]∧n.d6=zE∧n.a0=[]) ∨
 (n.d8=1∧Own n∧n.b6.length=3∧n.b6[n.Id.toNat]?=some true∧n.d6=zE∧n.a0=[]) ∨
 (n.d8=2∧Own n∧n.b6=[]∧n.d6=zE∧n.a0=[]) ∨
 (n.d8=3∧Own n∧n.b6=[]∧A6 n.d6=true∧n.a0.length=3∧n.a0[n.Id.toNat]?=some true∧n.a6.length<40)
def b9P (n:j3):Prop :=
 (n.i7=true∧H7 n.i4=true∧A6 n.c8=true∧n.c8.g8=false∧n.c8.a5=⟨n.Id,n.Seq⟩)∨(n.i7=false∧n.i4=[]∧n.c8=zE)
structure NI (n:j3):Prop where
 id:0≤n.Id∧n.Id≤2
 pr:0≤n.Acc.g7∧n.Acc.g7≤3000
 vl:n.Acc.a0.length≤40
 vs : ∀ v∈n.Acc.a0,VI v∧v.b5≤n.Acc.g7
 kl:n.a6.length≤40
 ks : ∀ e∈n.a6,A6 e=true
 sq:0≤n.Seq∧n.Seq≤1000
 ql:n.b8.length≤4
 qs : ∀ e∈n.b8,A6 e=true∧e.g8=false
 ld:a3Z n
 wt:b9P n
theorem b3H {α:Type} {l:List α}:((l.length:Int)==0)=true↔l=[]:=by
 rw [beq_iff_eq]
 constructor
 ·intro h; exact List.eq_nil_of_length_eq_zero (by omega)
 ·rintro rfl; rfl
theorem e8K {α:Type} {l:List α}:((l.length:Int)=0)↔l=[]:=by rw [← b3H,beq_iff_eq]
theorem c84 {l:List Bool} {id:Int} (h:0≤id∧id≤2):a5k l id=true↔l.length=3∧l[id.toNat]?=some true:=by
 unfold a5k b6L
 have e:idx l id=l[id.toNat]?:=by unfold idx; rw [if_pos h.1]
 rw [e,Bool.and_eq_true,beq_iff_eq]
 constructor
 ·rintro ⟨h1,h2⟩
  refine ⟨by omega,?_⟩
  cases hq:l[id.toNat]? with
  | none=>rw [hq] at h2; cases h2
  | some b=>rw [hq] at h2; simp at h2; rw [h2]
 ·rintro ⟨h1,h2⟩
  exact ⟨by omega,by rw [h2]; rfl⟩
theorem c3a {n:j3}:a41 n=true↔n.d6=zE∧n.a0=[]:=by
 unfold a41
 rw [Bool.and_eq_true,a5J,b3H]
theorem c7I {n:j3} (hid:0≤n.Id∧n.Id≤2):a2d n=true↔a3Z n:=by
 have hown:(a1T n.b5==n.Id)=true∧n.b5≤n.Acc.g7∧R8 n.i5=true↔Own n:=by
  rw [b32]
  constructor
  ·rintro ⟨h1,h2,h3⟩
   have hb:=Y1.1 (c9I (Y1.2 hid) h1)
   unfold a1T at h1
   rw [Y1.2 hb] at h1
   exact ⟨hb.1,hb.2,by simpa using h1,h2,h3.1,h3.2⟩
  ·intro h
   refine ⟨?_,h.pr,h.bl,h.bs⟩
   unfold a1T
   rw [Y1.2 ⟨h.b1,h.b2⟩]
   simpa using h.mod
 unfold a2d a3Z
 by_cases p0:n.d8=0
 ·simp only [p0,beq_self_eq_true,cond_true,Bool.and_eq_true,c3a,beq_iff_eq,e8K]
  constructor
  ·rintro ⟨a,b,c,d,e⟩; exact .inl ⟨trivial,a,b,c,d,e⟩
  ·rintro (h | h | h | h)
   ·exact ⟨h.2.1,h.2.2.1,h.2.2.2.1,h.2.2.2.2.1,h.2.2.2.2.2⟩
   all_goals exact absurd h.1 (by omega)
 ·have q0:(n.d8==0)=false:=by simpa using p0
  simp only [q0,cond_false,Bool.and_eq_true,decide_eq_true_eq]
  rw [← and_assoc,← and_assoc,and_assoc (a:=(a1T n.b5==n.Id)=true),hown]
  by_cases p1:n.d8=1
  ·simp only [p1,beq_self_eq_true,cond_true,Bool.and_eq_true,c84 hid,c3a]
   constructor
   ·rintro ⟨a,⟨b,c⟩,d,e⟩; exact .inr (.inl ⟨trivial,a,b,c,d,e⟩)
   ·rintro (h | h | h | h)
    ·exact absurd h.1 (by omega)
    ·exact ⟨h.2.1,⟨h.2.2.1,h.2.2.2.1⟩,h.2.2.2.2.1,h.2.2.2.2.2⟩
    all_goals exact absurd h.1 (by omega)
  ·have q1:(n.d8==1)=false:=by simpa using p1
   by_cases p2:n.d8=2
   ·have q2:(n.d8==2)=true:=by simpa using p2
    simp only [q1,q2,cond_true,cond_false,Bool.and_eq_true,b3H,c3a]
    constructor
    ·rintro ⟨a,b,c,d⟩; exact .inr (.inr (.inl ⟨p2,a,b,c,d⟩))
    ·rintro (h | h | h | h)
     ·exact absurd h.1 (by omega)
     ·exact absurd h.1 (by omega)
     ·exact ⟨h.2.1,h.2.2.1,h.2.2.2.1,h.2.2.2.2⟩
     ·exact absurd h.1 (by omega)
   ·have q2:(n.d8==2)=false:=by simpa using p2
    by_cases p3:n.d8=3
    ·have q3:(n.d8==3)=true:=by simpa using p3
     simp only [q1,q2,q3,cond_true,cond_false,Bool.and_eq_true,b3H,c84 hid,decide_eq_true_eq]
     constructor
     ·rintro ⟨a,b,c,⟨d,e⟩,f⟩; exact .inr (.inr (.inr ⟨p3,a,b,c,d,e,by omega⟩))
     ·rintro (h | h | h | h)
      ·exact absurd h.1 (by omega)
      ·exact absurd h.1 (by omega)
      ·exact absurd h.1 (by omega)
      ·exact ⟨h.2.1,h.2.2.1,h.2.2.2.1,⟨h.2.2.2.2.1,h.2.2.2.2.2.1⟩,by omega⟩
    ·have q3:(n.d8==3)=false:=by simpa using p3
     simp only [q1,q2,q3,cond_false,Bool.false_eq_true,and_false,false_iff]
     rintro (h | h | h | h)<;>omega
theorem d29 {a b:n9}:(([a.b9,a.Seq]:List Int)==[b.b9,b.Seq])=true↔a=b:=by
 obtain ⟨a1,a2⟩:=a
 obtain ⟨b1,b2⟩:=b
 simp
theorem d4n {n:j3}:a44 n=true↔b9P n:=by
 unfold a44 b9P
 cases n.i7
 ·simp only [cond_false,Bool.and_eq_true,b3H,a5J,Bool.false_eq_true,false_and,false_or,true_and]
 ·simp only [cond_true,Bool.and_eq_true,Bool.not_eq_true',Bool.true_eq_false,false_and,or_false,true_and]
  rw [show (([n.c8.a5.b9,n.c8.a5.Seq]:List Int)==[n.Id,n.Seq])=true↔n.c8.a5=⟨n.Id,n.Seq⟩ from d29 (b:=⟨n.Id,n.Seq⟩)]
theorem a72 {n:j3}:I1 n=true↔NI n:=by
 unfold I1 a1W I9 b5j
 simp only [Bool.and_eq_true,Y1,b32,List.all_eq_true,decide_eq_true_eq,Bool.not_eq_true',decide_eq_false_iff_not]
 constructor
 ·rintro ⟨h1,⟨h2,h3,h4⟩,⟨h5,h6⟩,h7,h8,h9,h10,h11⟩
  exact ⟨h1,h2,h3.1,fun v hv=>⟨h3.2 v hv,by have:=h4 v hv; omega⟩,h5,h6,h7,by omega,h11,(c7I h1).1 h9,d4n.1 h10⟩
 ·intro h
  exact ⟨h.id,⟨h.pr,⟨h.vl,fun v hv=>(h.vs v hv).1⟩,fun v hv=>by have:=(h.vs v hv).2; omega⟩,⟨h.kl,h.ks⟩,h.sq,by have:=h.ql; omega,(c7I h.id).2 h.ld,d4n.2 h.wt,h.qs⟩
theorem e8n {i:m5} (h:W6 i=true):a4c i:=by
 unfold W6 at h
 by_cases k1:i.b7=1
 ·simp [k1,p7] at h; exact ⟨A7 (by omega),A7 (by omega),A7 (by omega),A7 (by omega)⟩
 by_cases k2:i.b7=2
 ·simp [k2,p7] at h; exact ⟨A7 (by omega),A7 (by omega),A7 (by omega),A7 (by omega)⟩
 by_cases k3:i.b7=3
 ·simp [k3,p7] at h; exact ⟨A7 (by omega),A7 (by omega),A7 (by omega),A7 (by omega)⟩
 by_cases k4:i.b7=4
 ·simp [k4,p7] at h; exact ⟨A7 (by omega),A7 (by omega),A7 (by omega),A7 (by omega)⟩
 by_cases k5:i.b7=5
 ·simp [k5,p7] at h; exact ⟨A7 (by omega),A7 (by omega),A7 (by omega),A7 (by omega)⟩
 by_cases k6:i.b7=6
 ·simp [k6,p7] at h; exact ⟨A7 (by omega),A7 (by omega),A7 (by omega),A7 (by omega)⟩
 by_cases k7:i.b7=7
 ·simp [k7] at h; exact ⟨A7 (by omega),A7 (by omega),A7 (by omega),A7 (by omega)⟩
 ·simp [k1,k2,k3,k4,k5,k6,k7] at h
theorem d32 {l:List m5} (h:H7 l=true):B9 32 a4c l:=by
 obtain ⟨h1,h2⟩:=b9l h
 exact a2i (by omega) fun i hi=>e8n (h2 i hi)
theorem a3Z.phase {n:j3} (h:a3Z n):0≤n.d8∧n.d8≤3:=by
 rcases h with h | h | h | h<;>omega
theorem a3Z.bal {n:j3} (h:a3Z n):0≤n.b5∧n.b5≤3000:=by
 rcases h with h | h | h | h
 ·omega
 all_goals exact ⟨by have:=h.2.1.b1; omega,h.2.1.b2⟩
theorem a3Z.best {n:j3} (h:a3Z n):n.i5.length≤40 ∧ ∀ v∈n.i5,VI v:=by
 rcases h with h | h | h | h
 ·rw [h.2.2.2.1]; exact ⟨by simp,by simp⟩
 all_goals exact ⟨h.2.1.bl,h.2.1.bs⟩
theorem a3Z.from3 {n:j3} (h:a3Z n):n.b6.length≤3∧n.a0.length≤3∧H2 n.d6:=by
 rcases h with h | h | h | h
 ·rw [h.2.2.1,h.2.2.2.2.2,h.2.2.2.2.1]; exact ⟨by simp,by simp,a2u⟩
 ·rw [h.2.2.2.2.2,h.2.2.2.2.1]; exact ⟨by omega,by simp,a2u⟩
 ·rw [h.2.2.1,h.2.2.2.1,h.2.2.2.2]; exact ⟨by simp,by simp,a2u⟩
 ·rw [h.2.2.1]; exact ⟨by simp,by omega,a3P h.2.2.2.1⟩
theorem NI.ok {n:j3} (h:NI n):a0G n:=by
 have hf:=h.ld.from3
 have hb:=h.ld.best
 have hw:H2 n.c8∧B9 32 a4c n.i4:=by
  rcases h.wt with q | q
  ·exact ⟨a3P q.2.2.1,d32 q.2.1⟩
  ·rw [q.2.1,q.2.2]; exact ⟨a2u,a0s⟩
 have hph:=h.ld.phase
 have hbl:=h.ld.bal
 have h1:=h.id
 have h2:=h.pr
 have h3:=h.sq
 have h4:=h.vl
 have h5:=h.kl
 have h6:=h.ql
 exact ⟨A7 (by omega),⟨A7 (by omega),a8e (by omega) fun v hv=>(h.vs v hv).1⟩,c81 (by omega) h.ks,A7 (by omega),A7 (by omega),A7 (by omega),
  a2i (by omega) (fun _ _=>trivial),a8e (by omega) hb.2,hf.2.2,a2i (by omega) (fun _ _=>trivial),hw.2,hw.1,c81 (by omega) fun e he=>(h.qs e he).1⟩
theorem NI.list {n:j3} (h:NI n):I9 n.a6=true:=by
 unfold I9
 simp only [Bool.and_eq_true,decide_eq_true_eq,List.all_eq_true]
 exact ⟨h.kl,h.ks⟩
def a1g (m:j7):Prop :=
 ((m.b7=1∨m.b7=4)∧(1≤m.b5∧m.b5≤3000)∧m.i0=zE∧m.a0=[]) ∨
 (m.b7=2∧(1≤m.b5∧m.b5≤3000)∧m.i0=zE∧(m.a0.length≤40 ∧ ∀ v∈m.a0,VI v)∧m.g9+m.a0.length≤40) ∨
 (m.b7=3∧(1≤m.b5∧m.b5≤3000)∧m.g9<40∧A6 m.i0=true∧m.a0=[]) ∨
 (m.b7=5∧m.b5=0∧m.g9<40∧A6 m.i0=true∧m.a0=[]) ∨
 (m.b7=6∧(1≤m.b5∧m.b5≤3000)∧m.g9=0∧m.i0=zE∧m.a0=[]) ∨
 (m.b7=7∧m.b5=0∧m.g9=0∧A6 m.i0=true∧m.i0.g8=false∧m.a0=[]) ∨
 (m.b7=8∧m.b5=0∧m.i0=zE∧m.a0=[])
structure MI (m:j7):Prop where
 fr:0≤m.b6∧m.b6≤2
 to:0≤m.To∧m.To≤2
 ne:m.b6≠m.To
 sl:0≤m.g9∧m.g9≤40
 kd:a1g m
theorem e52 {m:j7}:a0i m=true↔MI m:=by
 have hk:(0≤m.g9∧m.g9≤40)→(a7c m=true↔a1g m):=by
  intro hs
  have hw:R8 m.a0=true→n8 (m.g9+(m.a0.length:Int))=m.g9+(m.a0.length:Int):=by
   intro hv
   have:=(b32.1 hv).1
   exact D4 (by omega) (by omega)
  unfold a7c a1g
  simp only [Bool.cond_eq_ite]
  by_cases k1:m.b7=1
  ·simp [k1,Y1,a5J]
  by_cases k4:m.b7=4
  ·simp [k4,Y1,a5J]
  by_cases k2:m.b7=2
  ·simp only [k2,Y1,a5J,beq_self_eq_true,if_true,Bool.and_eq_true,decide_eq_true_eq]
   simp only [show ((2:Int)==1)=false from rfl,show ((2:Int)==4)=false from rfl,Bool.false_eq_true,if_false,Bool.and_eq_true,Y1,a5J,decide_eq_true_eq]
   constructor
   ·rintro ⟨a,b,c,d⟩
    rw [hw c] at d
    exact .inr (.inl ⟨trivial,a,b,b32.1 c,d⟩)
   ·rintro (h | h | h | h | h | h | h)
    ·omega
    ·have c:=b32.2 h.2.2.2.1
     exact ⟨h.2.1,h.2.2.1,c,by rw [hw c]; exact h.2.2.2.2⟩
    all_goals exact absurd h.1 (by omega)
  by_cases k3:m.b7=3
  ·simp [k3,Y1]
  by_cases k5:m.b7=5
  ·simp [k5]
  by_cases k6:m.b7=6
  ·simp [k6,Y1,a5J]
  by_cases k7:m.b7=7
  ·simp [k7]
  by_cases k8:m.b7=8
  ·simp [k8,a5J]
  ·simp [k1,k2,k3,k4,k5,k6,k7,k8]
 unfold a0i
 simp only [Bool.and_eq_true,Y1,Bool.not_eq_true',beq_eq_false_iff_ne]
 constructor
 ·rintro ⟨a,b,c,d,e⟩; exact ⟨a,b,c,d,(hk d).1 e⟩
 ·intro h; exact ⟨h.fr,h.to,h.ne,h.sl,(hk h.sl).2 h.kd⟩
theorem MI.ok {m:j7} (h:MI m):a3f m:=by
 have hf:=h.fr
 have ht:=h.to
 have hs:=h.sl
 have hk:L1 m.b7∧L1 m.b5∧H2 m.i0∧B9 96 a0F m.a0:=by
  rcases h.kd with q | q | q | q | q | q | q
  ·rw [q.2.2.1,q.2.2.2]; exact ⟨A7 (by omega),A7 (by omega),a2u,a0s⟩
  ·rw [q.2.2.1]; exact ⟨A7 (by omega),A7 (by omega),a2u,a8e (by omega) q.2.2.2.1.2⟩
  ·rw [q.2.2.2.2]; exact ⟨A7 (by omega),A7 (by omega),a3P q.2.2.2.1,a0s⟩
  ·rw [q.2.2.2.2]; exact ⟨A7 (by omega),A7 (by omega),a3P q.2.2.2.1,a0s⟩
  ·rw [q.2.2.2.2,q.2.2.2.1]; exact ⟨A7 (by omega),A7 (by omega),a2u,a0s⟩
  ·rw [q.2.2.2.2.2]; exact ⟨A7 (by omega),A7 (by omega),a3P q.2.2.2.1,a0s⟩
  ·rw [q.2.2.1,q.2.2.2]; exact ⟨A7 (by omega),A7 (by omega),a2u,a0s⟩
 exact ⟨hk.1,A7 (by omega),A7 (by omega),hk.2.1,A7 (by omega),hk.2.2.1,hk.2.2.2⟩
structure WI (w:m3):Prop where
 nl:w.Nodes.length=3
 ns : ∀ (i:Nat) (n:j3),w.Nodes[i]?=some n→n.Id=(i:Int)∧NI n
 ml:w.Net.length≤40
 ms : ∀ m∈w.Net,MI m
 al:w.Asked.length≤60
 aq : ∀ a∈w.Asked,a1F a=true
 tl:w.Told.length≤60
 ts : ∀ t∈w.Told,Y5 t=true
theorem b91 {w:m3}:E1 w=true↔WI w:=by
 unfold E1
 simp only [Bool.and_eq_true,beq_iff_eq,decide_eq_true_eq,List.all_eq_true,List.mem_range,e52]
 constructor
 ·rintro ⟨h1,h2,h3,h4,h5,h6,h7,h8⟩
  refine ⟨by omega,?_,by omega,h6,by omega,h7,by omega,h8⟩
  intro i n hn
  have hi:=(List.getElem?_eq_some_iff.1 hn).1
  have:=h5 i hi
  unfold a4V at this
  rw [hn] at this
  simp only [Bool.and_eq_true,beq_iff_eq,a72] at this
  exact this
 ·intro h
  have h2:=h.ml
  have h3:=h.al
  have h4:=h.tl
  refine ⟨by have:=h.nl; omega,by omega,by omega,by omega,?_,h.ms,h.aq,h.ts⟩
  intro i hi
  unfold a4V
  rw [List.getElem?_eq_getElem hi]
  simp only [Bool.and_eq_true,beq_iff_eq,a72]
  exact h.ns i _ (List.getElem?_eq_getElem hi)
theorem e0U {a:r9} (h:a1F a=true):d1r a:=by
 unfold a1F at h
 simp only [Bool.and_eq_true,Y1] at h
 exact ⟨⟨A7 (by omega),A7 (by omega)⟩,d32 h.2⟩
theorem d8e {t:m7} (h:Y5 t=true):d4o t:=by
 unfold Y5 at h
 simp only [Bool.and_eq_true,Y1] at h
 exact ⟨A7 (by omega),⟨A7 (by omega),A7 (by omega)⟩,A7 (by omega),A7 (by omega)⟩
theorem WI.ok {w:m3} (h:WI w):Z3 w:=by
 have h1:=h.nl
 have h2:=h.ml
 have h3:=h.al
 have h4:=h.tl
 refine ⟨a2i (by omega) ?_,a2i (by omega) fun m hm=>(h.ms m hm).ok,a2i (by omega) fun a ha=>e0U (h.aq a ha),a2i (by omega) fun t ht=>d8e (h.ts t ht)⟩
 intro n hn
 obtain ⟨i,hi⟩:=List.getElem?_of_mem hn
 exact (h.ns i n hi).2.ok
theorem b5X (m o:j7):a5t m o=some [a5l m o]:=rfl
theorem c73 (n:j3) (b:Int):b2H n b=some (a2y n b):=by
 unfold b2H a2y
 cases n.d8 != 0
 ·rfl
 ·simp only [cond_true,Bool.true_and]
  cases decide (b>n.b5)<;>rfl
theorem e8o (n:j3) (b:Int):b25 n b=some (a2y n b):=by
 unfold b25 a2y
 cases n.d8 != 0
 ·rfl
 ·simp only [cond_true,Bool.true_and]
  cases decide (b>n.b5)<;>rfl
theorem e0P (n:j3) (b:Int):(a2y n b).Acc=n.Acc:=by
 unfold a2y
 cases n.d8 != 0&&decide (b>n.b5)<;>rfl
theorem b83 {a x:A4} {b:Int} (h:a0g a b=some x):x=⟨b,a.a0⟩∧1≤b∧b≤3000∧a.g7≤b:=by
 unfold a0g b2b at h
 cases hq:p7 b 1 3000&&decide (a.g7≤b)
 ·rw [hq] at h; cases h
 ·rw [hq] at h
  simp only [Bool.and_eq_true,Y1,decide_eq_true_eq] at hq
  injection h with h
  exact ⟨h.symm,hq.1.1,hq.1.2,hq.2⟩
theorem e29 {α:Type} (l:List α) (k:Nat):(l.drop k).take (l.length - k)=l.drop k:=by
 rw [List.take_of_length_le]
 simp
theorem e84 {n:j3} (h:a0G n) {m:j7} (hs:0≤m.g9):b4M n m=some (a73 n m):=by
 unfold b4M a73
 rw [c0K,b5A]
 cases hp:a0g n.Acc m.b5 with
 | none=>rfl
 | some a =>
  obtain ⟨rfl,_⟩:=b83 hp
  simp only [a5F,Option.bind_some,Bool.not_true,cond_false,e8o]
  have ha:=e0P { n with Acc:=⟨m.b5,n.Acc.a0⟩ } m.b5
  have hy : ∀ y:j3,y.Acc=⟨m.b5,n.Acc.a0⟩→(j3.mk y.Id (A4.mk y.Acc.g7 n.Acc.a0) y.a6 y.Seq y.d8 y.b5 y.b6 y.i5 y.d6 y.a0 y.i7 y.i4 y.c8 y.b8)=y:=by
   intro y hy
   obtain ⟨y1,y2,y3,y4,y5,y6,y7,y8,y9,y10,y11,y12,y13,y14⟩:=y
   simp only at hy
   subst hy
   rfl
  rw [hy _ ha]
  obtain ⟨k,hk⟩ : ∃ k:Nat,m.g9=(k:Int):=⟨m.g9.toNat,by omega⟩
  rw [hk,Int.toNat_natCast,e29]
  cases hd:decide ((k:Int)<(n.Acc.a0.length:Int))
  ·simp only [cond_false,b5X,Option.bind_some]
   rw [List.drop_eq_nil_of_le (by simp at hd; omega)]
  ·simp only [cond_true]
   rw [u7 (by simp at hd; omega),d7R (e5J h.2.1.2 (by simp) fun x hx=>List.mem_of_mem_drop hx),Option.bind_some,b5X,Option.bind_some]
theorem e6c {n:j3} {m:j7} (hm:a3f m):b5e n m=some (a7w n m):=by
 have he:H2 m.i0:=hm.2.2.2.2.2.1
 unfold b5e a7w
 rw [d4a he,c9p he]
 cases a0K n.Acc m.b5 m.g9 m.i0 with
 | none=>rfl
 | some a=>simp only [a5F,Option.bind_some,Bool.not_true,cond_false,c73,b5X]
theorem c77 {l:List Bool} (h:l.length≤3):s8 l:=by unfold s8; omega
theorem e6l {n:j3} (h:NI n) {m:j7} (hm:MI m) (hk:m.b7=2):b5L n m=some (a7O n m):=by
 have hkd:(m.a0.length≤40 ∧ ∀ v∈m.a0,VI v)∧m.g9+m.a0.length≤40:=by
  rcases hm.kd with q | q | q | q | q | q | q
  ·omega
  ·exact ⟨q.2.2.2.1,q.2.2.2.2⟩
  all_goals exact absurd q.1 (by omega)
 have hs:=hm.sl
 have hf:=hm.fr
 unfold b5L a7O
 by_cases p1:n.d8=1
 ·rw [show (n.d8 != 1)=false by simp [p1],Bool.false_or]
  simp only [cond_false]
  cases hb:m.b5 != n.b5
  ·simp only [cond_false]
   have hl:n.b6.length=3∧Own n:=by
    rcases h.ld with q | q | q | q
    ·omega
    ·exact ⟨q.2.2.1,q.2.1⟩
    all_goals exact absurd q.1 (by omega)
   obtain ⟨f,hff⟩ : ∃ f:Nat,m.b6=(f:Int):=⟨m.b6.toNat,by omega⟩
   have hvo:B9 96 a0F (List.replicate m.g9.toNat v0++m.a0):=a8e (by simp; omega) (by
    intro v hv
    rcases List.mem_append.1 hv with q | q
    ·rw [(List.mem_replicate.1 q).2]; exact .inl rfl
    ·exact hkd.1.2 v q)
   have hz : ∀ v∈List.replicate m.g9.toNat v0++m.a0,v.b5≤0→v=v0:=by
    intro v hv hb
    rcases List.mem_append.1 hv with q | q
    ·exact (List.mem_replicate.1 q).2
    ·exact (hkd.1.2 v q).zero hb
   rw [hff,t9 (show f<n.b6.length by omega),Option.bind_some,e4z (a8e (by omega) hkd.1.2) hkd.1.1 hs,Option.bind_some,e31 (a8e (by have:=hl.2.bl; omega) hl.2.bs) hvo (by have:=hl.2.bl; omega) (by simp; omega) hz,Option.bind_some,d3x (c77 (by simp; omega)),Option.bind_some]
   cases htw:two (n.b6.set (f:Int).toNat true)
   ·simp only [Bool.not_false,cond_true,cond_false]
   ·simp only [Bool.not_true,cond_false,cond_true]
    have hbl:=b63 n.i5 (List.replicate m.g9.toNat v0++m.a0)
    have hob:=hl.2.bl
    have hlen:(List.replicate m.g9.toNat v0++m.a0).length≤40:=by simp; omega
    obtain ⟨h1,h2,h3,h4,h5,h6,h7,h8,h9,h10,h11,h12,h13⟩:=h.ok
    rw [b2e (n:=⟨n.Id,n.Acc,n.a6,n.Seq,2,n.b5,[],O0 n.i5 (List.replicate m.g9.toNat v0++m.a0),n.d6,n.a0,n.i7,n.i4,n.c8,n.b8⟩) ⟨h1,h2,h3,h4,A7 (n:=2) (by omega),h6,a0s,a8e (by show (O0 n.i5 (List.replicate m.g9.toNat v0++m.a0)).length≤1000; omega) (fun v hv=>(c6m hv).elim (fun q=>hl.2.bs v q) (fun q=>(List.mem_append.1 q).elim (fun q=>by rw [(List.mem_replicate.1 q).2]; exact .inl rfl) (hkd.1.2 v))),h9,h10,h11,h12,h13⟩ h.id,Option.bind_some]
  ·rfl
 ·rw [show (n.d8 != 1)=true by simpa using p1]; rfl
theorem a27 (id:Int) (m:j7):(a0r id m).length≤3:=by
 unfold a0r
 rw [List.length_map]
 exact List.length_filter_le _ _
theorem a7P (n:j3):(a1C n).2.length≤3:=by
 unfold a1C b2y
 cases n.d8 != 2||decide (40≤n.a6.length)
 ·simp only [cond_false]
  cases a4H n with
  | mk x o =>
   cases o with
   | none=>simp
   | some e =>
    simp only
    cases a0K x.Acc x.b5 (x.a6.length:Int) e with
    | none=>simp
    | some a=>exact a27 _ _
 ·simp
theorem e0d {n:j3} (h:NI n) {m:j7} (hm:MI m):b7I n m=some (a9j n m):=by
 have hf:=hm.fr
 unfold b7I a9j
 by_cases p3:n.d8=3
 ·rw [show (n.d8 != 3)=false by simp [p3],Bool.false_or]
  simp only [cond_false]
  cases hb:m.b5 != n.b5
  ·simp only [cond_false,Bool.false_or]
   cases hs:m.g9 != (n.a6.length:Int)
   ·simp only [cond_false]
    have hl:n.a0.length=3∧A6 n.d6=true∧n.a6.length<40:=by
     rcases h.ld with q | q | q | q
     ·omega
     ·omega
     ·omega
     ·exact ⟨q.2.2.2.2.1,q.2.2.2.1,q.2.2.2.2.2.2⟩
    obtain ⟨f,hff⟩ : ∃ f:Nat,m.b6=(f:Int):=⟨m.b6.toNat,by omega⟩
    have hcur:=a3P hl.2.1
    rw [hff,t9 (show f<n.a0.length by omega),Option.bind_some,d3x (c77 (by simp; omega)),Option.bind_some]
    cases htw:two (n.a0.set (f:Int).toNat true)
    ·simp only [Bool.not_false,cond_true,cond_false]
    ·simp only [Bool.not_true,cond_false,cond_true]
     obtain ⟨h1,h2,h3,h4,h5,h6,h7,h8,h9,h10,h11,h12,h13⟩:=h.ok
     rw [a1Z hcur,Option.bind_some,a6A h.id (a8I (A7 (by omega)) a1t (A7 (by omega)) hcur a0s),Option.bind_some,
      d4A (n:={ n with a0:=n.a0.set (f:Int).toNat true }) ⟨h1,h2,h3,h4,h5,h6,h7,h8,h9,a2i (by simp; omega) (fun _ _=>trivial),h11,h12,h13⟩ h.id h.list hl.2.2 hcur hl.2.1,Option.bind_some,u7]
     have e1:=a27 n.Id ⟨5,0,0,0,(n.a6.length:Int),n.d6,[]⟩
     have e2:=a7P (a2B (a1o { n with a0:=n.a0.set (f:Int).toNat true } n.d6)).1
     have e3:(a4s { n with a0:=n.a0.set (f:Int).toNat true } n.d6).2.1.length≤3:=e2
     omega
   ·rfl
  ·rfl
 ·rw [show (n.d8 != 3)=true by simpa using p3]; rfl
theorem e7b {n:j3} (h:NI n) {m:j7} (hm:MI m) (hk:m.b7=5):b46 n m=some (b1u n m):=by
 have hkd:m.g9<40∧A6 m.i0=true:=by
  rcases hm.kd with q | q | q | q | q | q | q
  ·omega
  ·omega
  ·omega
  ·exact ⟨q.2.2.1,q.2.2.2.1⟩
  all_goals exact absurd q.1 (by omega)
 unfold b46 b1u
 cases h1:decide (m.g9<(n.a6.length:Int))
 ·cases h2:decide (m.g9>(n.a6.length:Int))
  ·simp only [cond_false]
   have hl:n.a6.length<40:=by simp at h1 h2; omega
   rw [d4A h.ok h.id h.list hl (a3P hkd.2) hkd.2,Option.bind_some]
  ·rfl
 ·rfl
theorem e7S {n:j3} (h:NI n) {m:j7} (hm:MI m):b8e n m=some (a7G n m):=by
 have he:H2 m.i0:=hm.ok.2.2.2.2.2.1
 have hql:=h.ql
 unfold b8e a7G
 rw [show decide ((n.b8.length:Int)≥4)=decide (4≤n.b8.length) by simp; omega,b4U (h.ok.2.2.1.fits (by decide)),a1Z he]
 cases n.d8==0
 ·simp only [cond_false,Bool.false_or]
  cases decide (4≤n.b8.length)
  ·simp only [cond_false,Bool.false_or,Option.bind_some]
   cases a0D n.a6 m.i0.a5
   ·obtain ⟨h1,h2,h3,h4,h5,h6,h7,h8,h9,h10,h11,h12,h13⟩:=h.ok
    simp only [cond_false]
    rw [u7 (by omega),b2e (n:={ n with b8:=n.b8++[m.i0] }) ⟨h1,h2,h3,h4,h5,h6,h7,h8,h9,h10,h11,h12,a2i (by simp; omega) (by
     intro x hx
     rcases List.mem_append.1 hx with q | q
     ·exact h13.2 x q
     ·rw [List.mem_singleton.1 q]; exact he)⟩ h.id,Option.bind_some]
   ·rfl
  ·rfl
 ·rfl
theorem d4w {n:j3} (m:j7) {k:Nat} (hk:k<n.a6.length):a4t n m k=[a5l m ⟨5,0,0,0,(k:Int),n.a6[k],[]⟩]:=by
 unfold a4t
 rw [List.getElem?_eq_getElem hk]
theorem d3O {n:j3} (h:NI n) (m:j7) : ∀ (d k:Nat) (o:List j7),n.a6.length - k=d→o.length≤k→q7 (fun s:(List j7)×Int=>a6z n m s.1 s.2) (o,(k:Int))=some (.brk (o++((List.range d).map fun j=>a4t n m (k+j)).flatten))
 | 0,k,o,hd,ho=>by
  have hkl:=h.kl
  refine (G5 (b:=o) ?_).trans (by simp)
  show a6z n m o (k:Int)=_
  unfold a6z
  rw [show decide ((k:Int)<(n.a6.length:Int))=false by simp; omega]
  rfl
 | d+1,k,o,hd,ho=>by
  have hkl:=h.kl
  have hlt:k<n.a6.length:=by omega
  have hb:a6z n m o (k:Int)=some (.nxt (o++a4t n m k,((k+1:Nat):Int))):=by
   unfold a6z
   rw [x9 _ k hlt,t9 hlt,cond_true,Option.bind_some,a1Z (a3P (h.ks _ (List.getElem_mem hlt))),Option.bind_some,b5X,Option.bind_some,u7 (by simp; omega),d4w m hlt,J2 (h.ok.2.2.1.fits (by decide)) hlt]
  rw [M5 (body:=fun s:(List j7)×Int=>a6z n m s.1 s.2) (s:=(o,(k:Int))) hb,d3O h m d (k+1) _ (by omega) (by rw [d4w m hlt]; simp; omega)]
  rw [List.range_succ_eq_map,List.map_cons,List.flatten_cons,List.append_assoc,List.map_map]
  simp only [Nat.add_zero,Function.comp_def,Nat.succ_eq_add_one,Nat.add_assoc,Nat.add_comm 1]
theorem e5w {n:j3} (h:NI n) {m:j7} (hs:0≤m.g9):b8u n m=some (a8c n m,n):=by
 unfold b8u a8c
 obtain ⟨k,hk⟩ : ∃ k:Nat,m.g9=(k:Int):=⟨m.g9.toNat,by omega⟩
 rw [hk]
 have:=d3O h m (n.a6.length - k) k [] rfl (by simp)
 rw [this]
 rfl
theorem d7o {n:j3} (h:NI n) {m:j7} (hm:MI m):b7P n m=some (a4k n m):=by
 unfold b7P a4k
 rw [e84 h.ok hm.sl.1,e6c hm.ok,e0d h hm,e7S h hm,e5w h hm.sl.1,b5A]
 by_cases k1:m.b7=1
 ·simp [k1]; rfl
 rw [show (m.b7==1)=false by simpa using k1]
 by_cases k2:m.b7=2
 ·rw [e6l h hm k2]; simp [k2]; rfl
 rw [show (m.b7==2)=false by simpa using k2]
 by_cases k3:m.b7=3
 ·simp [k3]; rfl
 rw [show (m.b7==3)=false by simpa using k3]
 by_cases k4:m.b7=4
 ·simp [k4]; rfl
 rw [show (m.b7==4)=false by simpa using k4]
 by_cases k5:m.b7=5
 ·rw [e7b h hm k5]; simp [k5]; rfl
 rw [show (m.b7==5)=false by simpa using k5]
 by_cases k6:m.b7=6
 ·rw [show (m.b7==6)=true by simpa using k6]
  simp only [cond_true,cond_false,Option.bind_some]
  cases a0g n.Acc m.b5<;>simp only [c73,Option.bind_some,Option.getD_none,Option.getD_some]<;>rfl
 rw [show (m.b7==6)=false by simpa using k6]
 by_cases k7:m.b7=7
 ·simp [k7]; rfl
 rw [show (m.b7==7)=false by simpa using k7]
 cases m.b7==8
 ·rfl
 ·simp only [cond_true,cond_false,Option.bind_some]
  rw [u7 trivial,u7 trivial,u7 trivial,u7 trivial,u7 trivial]
  rfl
theorem d5O {a x:A4} {b s:Int} {e:l7} (h:a0K a b s e=some x) : ∃ k:Nat,s=(k:Int)∧k<40∧A6 e=true∧1≤b∧b≤3000∧a.g7≤b∧x=⟨b,(a3H a.a0 (k+1)).set k ⟨b,e⟩⟩:=by
 unfold a0K at h
 cases hq:p7 s 0 39&&A6 e
 ·rw [hq] at h; cases h
 ·rw [hq,cond_true] at h
  simp only [Bool.and_eq_true,Y1] at hq
  cases hp:a0g a b with
  | none=>rw [hp] at h; cases h
  | some y =>
   rw [hp] at h
   obtain ⟨rfl,h1,h2,h3⟩:=b83 hp
   injection h with h
   refine ⟨s.toNat,by omega,by omega,hq.2,h1,h2,h3,h.symm⟩
theorem c5O {a:A4} {b:Int} (h1:1≤b) (h2:b≤3000) (h3:a.g7≤b):a0g a b=some ⟨b,a.a0⟩:=by
 unfold a0g b2b
 rw [Y1.2 ⟨h1,h2⟩,show decide (a.g7≤b)=true by simpa using h3]
 rfl
theorem d8H {a:A4} {b:Int} {k:Nat} {e:l7} (hk:k<40) (he:A6 e=true) (h1:1≤b) (h2:b≤3000) (h3:a.g7≤b):a0K a b (k:Int) e=some ⟨b,(a3H a.a0 (k+1)).set k ⟨b,e⟩⟩:=by
 unfold a0K
 rw [Y1.2 (show 0≤(k:Int)∧(k:Int)≤39 by omega),he,c5O h1 h2 h3]
 rfl
theorem e7l {vs:List m6} {n:Nat} {v:m6} (h:v∈a3H vs n):v∈vs∨v=v0:=by
 rcases List.mem_append.1 h with q | q
 ·exact .inl q
 ·exact .inr (List.mem_replicate.1 q).2
theorem e0O {α:Type} {l:List α} {k:Nat} {x v:α} (h:v∈l.set k x):v∈l∨v=x:=List.mem_or_eq_of_mem_set h
theorem NI.queue {n:j3} (h:NI n) {q:List l7} (hl:q.length≤4) (hm : ∀ e∈q,A6 e=true∧e.g8=false):NI { n with b8:=q } :=
 ⟨h.id,h.pr,h.vl,h.vs,h.kl,h.ks,h.sq,hl,hm,h.ld,h.wt⟩
theorem NI.down {n:j3} (h:NI n):NI (b5P n) :=
 ⟨h.id,h.pr,h.vl,h.vs,h.kl,h.ks,h.sq,h.ql,h.qs,.inl ⟨rfl,rfl,rfl,rfl,rfl,rfl⟩,h.wt⟩
theorem NI.freeN {n:j3} (h:NI n):NI (b3m n) :=
 ⟨h.id,h.pr,h.vl,h.vs,h.kl,h.ks,h.sq,h.ql,h.qs,h.ld,.inr ⟨rfl,rfl,rfl⟩⟩
theorem NI.acc {n:j3} (h:NI n) {a:A4} (h1:0≤a.g7∧a.g7≤3000) (h2:a.a0.length≤40) (h3 : ∀ v∈a.a0,VI v∧v.b5≤a.g7) (h4:n.Acc.g7≤a.g7):NI { n with Acc:=a }:=by
 have ho:Own n→Own { n with Acc:=a }:=fun o=>⟨o.b1,o.b2,o.mod,Int.le_trans o.pr h4,o.bl,o.bs⟩
 refine ⟨h.id,h1,h2,h3,h.kl,h.ks,h.sq,h.ql,h.qs,?_,h.wt⟩
 rcases h.ld with q | q | q | q
 ·exact .inl q
 ·exact .inr (.inl ⟨q.1,ho q.2.1,q.2.2⟩)
 ·exact .inr (.inr (.inl ⟨q.1,ho q.2.1,q.2.2⟩))
 ·exact .inr (.inr (.inr ⟨q.1,ho q.2.1,q.2.2⟩))
theorem NI.promise {n:j3} (h:NI n) {b:Int} {x:A4} (hp:a0g n.Acc b=some x):NI { n with Acc:=x }:=by
 obtain ⟨rfl,h1,h2,h3⟩:=b83 hp
 exact h.acc ⟨by simp only; omega,h2⟩ h.vl (fun v hv=>⟨(h.vs v hv).1,Int.le_trans (h.vs v hv).2 h3⟩) h3
theorem e4l {vs:List m6} {p b:Int} {k:Nat} {e:l7} (hk:k<40) (hl:vs.length≤40) (hv : ∀ v∈vs,VI v∧v.b5≤p) (he:A6 e=true) (h1:1≤b) (h2:b≤3000) (h3:p≤b) :
  ((a3H vs (k+1)).set k ⟨b,e⟩).length≤40 ∧ ∀ v∈(a3H vs (k+1)).set k ⟨b,e⟩,VI v∧v.b5≤b:=by
 refine ⟨by rw [List.length_set,c53]; omega,fun v hm => ?_⟩
 rcases e0O hm with q | q
 ·rcases e7l q with q | q
  ·exact ⟨(hv v q).1,Int.le_trans (hv v q).2 h3⟩
  ·rw [q]; exact ⟨.inl rfl,by show (0:Int)≤b; omega⟩
 ·rw [q]; exact ⟨.inr ⟨h1,h2,he⟩,Int.le_refl _⟩
theorem NI.cast {n:j3} (h:NI n) {b s:Int} {e:l7} {x:A4} (hc:a0K n.Acc b s e=some x):NI { n with Acc:=x }:=by
 obtain ⟨k,rfl,hk,he,h1,h2,h3,rfl⟩:=d5O hc
 obtain ⟨a,b'⟩:=e4l hk h.vl h.vs he h1 h2 h3
 exact h.acc ⟨by simp only; omega,h2⟩ a b' h3
theorem NI.yield {n:j3} (h:NI n) (b:Int):NI (a2y n b):=by
 unfold a2y
 cases n.d8 != 0&&decide (b>n.b5)
 ·exact h
 ·exact h.down
theorem c1J {id:Int} (h:0≤id∧id≤2):(b2W id).length=3∧(b2W id)[id.toNat]?=some true:=by
 unfold b2W
 refine ⟨by simp,?_⟩
 rw [List.getElem?_set_self (by simp; omega)]
theorem a4E.right {n:j3} (h:NI n) {e:l7} (hn:a4E n e):A6 e=true:=by
 cases hn with
 | best v hv hb=>exact (h.ld.best.2 v (List.mem_of_getElem? hv)).pos hb
 | gap=>rfl
 | want hb =>
  rcases h.wt with q | q
  ·exact q.2.2.1
  ·rw [hb] at q; cases q.1
 | queue e hq=>exact (h.qs e hq).1
theorem d7V {id:Int} {m x:j7} (hid:0≤id∧id≤2) (h:x∈a0r id m) : ∃ t:Int,0≤t∧t≤2∧t≠id∧x={ m with b6:=id,To:=t }:=by
 unfold a0r at h
 obtain ⟨t,ht,rfl⟩:=List.mem_map.1 h
 obtain ⟨h1,h2⟩:=List.mem_filter.1 ht
 refine ⟨t,?_,?_,by simpa using h2,rfl⟩
 all_goals simp at h1; omega
theorem a7h {id:Int} {m:j7} (hid:0≤id∧id≤2) (hk:a1g m) (hs:0≤m.g9∧m.g9≤40) : ∀ x∈a0r id m,MI x:=by
 intro x hx
 obtain ⟨t,h1,h2,h3,rfl⟩:=d7V hid hx
 exact ⟨hid,⟨h1,h2⟩,fun q=>h3 q.symm,hs,hk⟩
theorem b0K {m o:j7} (hm:MI m) (hk:a1g o) (hs:0≤o.g9∧o.g9≤40):MI (a5l m o):=⟨hm.to,hm.fr,fun q=>hm.ne q.symm,hs,hk⟩
theorem a1g.one {k b s:Int} (hk:k=1∨k=4) (hb:1≤b∧b≤3000):a1g ⟨k,0,0,b,s,zE,[]⟩:=.inl ⟨hk,hb,rfl,rfl⟩
theorem a1g.accept {b s:Int} {e:l7} (hb:1≤b∧b≤3000) (hs:s<40) (he:A6 e=true):a1g ⟨3,0,0,b,s,e,[]⟩:=.inr (.inr (.inl ⟨rfl,hb,hs,he,rfl⟩))
theorem a1g.chosen {s:Int} {e:l7} (hs:s<40) (he:A6 e=true):a1g ⟨5,0,0,0,s,e,[]⟩:=.inr (.inr (.inr (.inl ⟨rfl,rfl,hs,he,rfl⟩)))
theorem a1g.refuse {b:Int} (hb:1≤b∧b≤3000):a1g ⟨6,0,0,b,0,zE,[]⟩:=.inr (.inr (.inr (.inr (.inl ⟨rfl,hb,rfl,rfl,rfl⟩))))
theorem a1g.ask {e:l7} (he:A6 e=true) (hn:e.g8=false):a1g ⟨7,0,0,0,0,e,[]⟩:=.inr (.inr (.inr (.inr (.inr (.inl ⟨rfl,rfl,rfl,he,hn,rfl⟩)))))
theorem a1g.need {s:Int}:a1g ⟨8,0,0,0,s,zE,[]⟩:=.inr (.inr (.inr (.inr (.inr (.inr ⟨rfl,rfl,rfl,rfl⟩)))))
structure a0V (n:j3) (x:j3×List j7):Prop where
 ni:NI x.1
 id:x.1.Id=n.Id
 ms : ∀ m∈x.2,MI m
theorem a0V.same {n:j3} (h:NI n):a0V n (n,[]):=⟨h,rfl,by simp⟩
theorem a0V.to {n n':j3} (hi:n'.Id=n.Id) {x:j3×List j7} (h:a0V n' x):a0V n x:=⟨h.ni,h.id.trans hi,h.ms⟩
theorem b4e {n:j3} (h:NI n):a0V n (a1C n):=by
 unfold a1C
 cases hc:n.d8 != 2||decide (40≤n.a6.length)
 ·simp only [cond_false]
  simp only [Bool.or_eq_false_iff,bne_eq_false_iff_eq,decide_eq_false_iff_not] at hc
  obtain ⟨q,hq,hql,hqm,hqe⟩:=c5q n
  cases hx:a4H n with
  | mk x o =>
  rw [hx] at hq hqe
  have hq:x={ n with b8:=q }:=hq
  have hn:NI { n with b8:=q }:=h.queue (by have:=h.ql; omega) fun e he=>h.qs e (hqm e he)
  subst hq
  cases o with
  | none=>exact ⟨hn,rfl,by simp⟩
  | some e =>
   have he:=(hqe e rfl).right h
   simp only [b2y]
   have ho:Own n:=by
    rcases h.ld with q | q | q | q
    ·omega
    ·omega
    ·exact q.2.1
    ·omega
   cases hcs:a0K n.Acc n.b5 (n.a6.length:Int) e with
   | none=>exact ⟨hn.down,rfl,by simp⟩
   | some a =>
    have hac:=hn.cast (b:=n.b5) (s:=(n.a6.length:Int)) (e:=e) hcs
    obtain ⟨k,hk,hk40,_,h1,h2,h3,rfl⟩:=d5O hcs
    refine ⟨⟨h.id,hac.pr,hac.vl,hac.vs,h.kl,h.ks,h.sq,hn.ql,hn.qs,?_,h.wt⟩,rfl,a7h h.id (.accept ⟨h1,h2⟩ (by omega) he) (by simp only; omega)⟩
    refine .inr (.inr (.inr ⟨rfl,⟨ho.b1,ho.b2,ho.mod,Int.le_refl _,ho.bl,ho.bs⟩,?_,he,(c1J h.id).1,(c1J h.id).2,by simp only; omega⟩))
    rcases h.ld with q | q | q | q
    ·omega
    ·omega
    ·exact q.2.2.1
    ·omega
 ·exact .same h
theorem NI.know {n:j3} (h:NI n) {e:l7} (he:A6 e=true) (hl:n.a6.length<40):NI (a1o n e):=by
 have hks : ∀ x∈n.a6++[e],A6 x=true:=by
  intro x hx
  rcases List.mem_append.1 hx with q | q
  ·exact h.ks x q
  ·rw [List.mem_singleton.1 q]; exact he
 have hkl:(n.a6++[e]).length≤40:=by simp; omega
 unfold a1o
 by_cases p3:n.d8=3
 ·rw [show (n.d8==3)=true by simpa using p3]
  refine ⟨h.id,h.pr,h.vl,h.vs,hkl,hks,h.sq,h.ql,h.qs,?_,h.wt⟩
  rcases h.ld with q | q | q | q
  ·omega
  ·omega
  ·omega
  ·exact .inr (.inr (.inl ⟨rfl,⟨q.2.1.b1,q.2.1.b2,q.2.1.mod,q.2.1.pr,q.2.1.bl,q.2.1.bs⟩,q.2.2.1,rfl,rfl⟩))
 ·rw [show (n.d8==3)=false by simpa using p3]
  refine ⟨h.id,h.pr,h.vl,h.vs,hkl,hks,h.sq,h.ql,h.qs,?_,h.wt⟩
  rcases h.ld with q | q | q | q
  ·exact .inl q
  ·exact .inr (.inl ⟨q.1,⟨q.2.1.b1,q.2.1.b2,q.2.1.mod,q.2.1.pr,q.2.1.bl,q.2.1.bs⟩,q.2.2⟩)
  ·exact .inr (.inr (.inl ⟨q.1,⟨q.2.1.b1,q.2.1.b2,q.2.1.mod,q.2.1.pr,q.2.1.bl,q.2.1.bs⟩,q.2.2⟩))
  ·exact absurd q.1 p3
theorem e2M {s:o9} {e:l7} (hn:e.g8=false):0≤(apply s e).2∧(apply s e).2≤4:=by
 have hf:0≤(a2W s e).2∧(a2W s e).2≤4:=by
  unfold a2W
  cases a49 s.d7 e.a9
  ·exact ⟨by simp,by simp⟩
  ·cases e.a9.Code==0<;>exact ⟨by simp,by simp⟩
 unfold apply
 rw [hn]
 simp only [cond_false]
 cases s.f0.find? fun d=>d.a5.b9==e.a5.b9 with
 | none=>exact hf
 | some d =>
  simp only
  cases d.a5.Seq==e.a5.Seq
  ·cases decide (d.a5.Seq>e.a5.Seq)
   ·exact hf
   ·exact ⟨by simp,by simp⟩
  ·exact ⟨by simp,by simp⟩
theorem c9L {l:List l7} {q:n9} {k:Nat} (h:l.findIdx? (J5 q)=some k) : ∃ hk:k<l.length,l[k].g8=false∧l[k].a5=q:=by
 rw [List.findIdx?_eq_some_iff_getElem] at h
 obtain ⟨hk,h1,_⟩:=h
 unfold J5 at h1
 simp only [Bool.and_eq_true,Bool.not_eq_true'] at h1
 exact ⟨hk,h1.1,d29.1 h1.2⟩
theorem e7f {l:List l7} (h:I9 l=true) {k:Nat} (hk:k<l.length):a0A l k=(apply (q8 (l.take k)).1 l[k]).2:=by
 obtain ⟨a,b⟩:=a2j h
 unfold a0A
 rw [c3j a b hk]; rfl
theorem e6m {l:List l7} (h : ∀ e∈l,A6 e=true) (q:n9) : -1000000≤a3K l q∧a3K l q≤1000000:=by
 unfold a3K
 cases hf:l.findIdx? (J5 q) with
 | none=>exact ⟨by simp,by simp⟩
 | some k =>
  obtain ⟨hk,h1,h2⟩:=c9L hf
  simp only [List.getElem?_eq_getElem hk]
  exact (a8w (b0N (h _ (List.getElem_mem hk)) h1).2.2.1).2.1
theorem e3e {n:j3} (h:NI n):NI (a2B n).1 ∧ ∀ t∈(a2B n).2,Y5 t=true:=by
 rcases b78 n with q | ⟨k,hb,hk,q⟩<;>rw [q]
 ·exact ⟨h,by simp⟩
 ·refine ⟨h.freeN,fun t ht => ?_⟩
  obtain ⟨hkl,h1,h2⟩:=c9L hk
  have ht:=List.mem_singleton.1 ht
  subst ht
  have hw:n.c8.a5=⟨n.Id,n.Seq⟩∧A6 n.c8=true∧n.c8.g8=false:=by
   rcases h.wt with q | q
   ·exact ⟨q.2.2.2.2,q.2.2.1,q.2.2.2.1⟩
   ·rw [hb] at q; cases q.1
  obtain ⟨w1,w2,_⟩:=b0N hw.2.1 hw.2.2
  have hc:=e2M (s:=(q8 (n.a6.take k)).1) h1
  rw [← e7f h.list hkl] at hc
  have hv:=e6m h.ks n.c8.a5
  unfold Y5
  simp only [Bool.and_eq_true,Y1,beq_iff_eq]
  refine ⟨h.id,⟨w1,w2⟩,by rw [hw.1],hc,?_⟩
  cases a0A n.a6 k==0
  ·exact ⟨by simp,by simp⟩
  ·exact hv
structure a7Y (n:j3) (x:j3×List j7×List m7):Prop where
 ni:NI x.1
 id:x.1.Id=n.Id
 ms : ∀ m∈x.2.1,MI m
 ts : ∀ t∈x.2.2,Y5 t=true
theorem a0V.three {n:j3} {x:j3×List j7} (h:a0V n x):a7Y n (x.1,x.2,[]):=⟨h.ni,h.id,h.ms,by simp⟩
theorem a7Y.same {n:j3} (h:NI n):a7Y n (n,[],[]):=⟨h,rfl,by simp,by simp⟩
theorem c6i {n:j3} (h:NI n) {e:l7} (he:A6 e=true) (hl:n.a6.length<40):a7Y n (a4s n e):=by
 have h1:=h.know he hl
 obtain ⟨h2,h3⟩:=e3e h1
 have h4:=b4e h2
 exact ⟨h4.ni,h4.id.trans ((d6k _).trans (c9S _ _)),h4.ms,h3⟩
theorem e6N {a:A4} {b:Int} (h:a0g a b=none) (hb:1≤b∧b≤3000):b<a.g7:=by
 by_cases q:a.g7≤b
 ·rw [c5O hb.1 hb.2 q] at h; cases h
 ·omega
theorem d7s {n:j3} (h:NI n) {m:j7} (hm:MI m) (hk:m.b7=1):a0V n (a73 n m):=by
 have hb:1≤m.b5∧m.b5≤3000:=by
  rcases hm.kd with q | q | q | q | q | q | q
  ·exact q.2.1
  all_goals exact absurd q.1 (by omega)
 have hs:=hm.sl
 unfold a73
 cases hp:a0g n.Acc m.b5 with
 | none =>
  have:=e6N hp hb
  refine ⟨h,rfl,fun x hx => ?_⟩
  rw [List.mem_singleton.1 hx]
  exact b0K hm (.refuse (by have:=h.pr; omega)) (by simp)
 | some a =>
  have hn:=(h.promise hp).yield m.b5
  obtain ⟨rfl,_⟩:=b83 hp
  refine ⟨hn,?_,fun x hx => ?_⟩
  ·simp only [a2y]
   cases n.d8 != 0&&decide (m.b5>n.b5)<;>rfl
  ·rw [List.mem_singleton.1 hx]
   have hvl:=h.vl
   refine b0K hm (.inr (.inl ⟨rfl,hb,rfl,⟨by simp; omega,fun v hv=>(h.vs v (List.mem_of_mem_drop hv)).1⟩,by simp; omega⟩)) hs
theorem c0l (n:j3) (b:Int):(a2y n b).Id=n.Id:=by
 unfold a2y
 cases n.d8 != 0&&decide (b>n.b5)<;>rfl
theorem e7G {a:A4} {b:Int} {k:Nat} {e:l7} (h:a0K a b (k:Int) e=none) (hk:k<40) (he:A6 e=true) (hb:1≤b∧b≤3000):b<a.g7:=by
 by_cases q:a.g7≤b
 ·rw [d8H hk he hb.1 hb.2 q] at h; cases h
 ·omega
theorem e7h {n:j3} (h:NI n) {m:j7} (hm:MI m) (hk:m.b7=3):a0V n (a7w n m):=by
 have hb:(1≤m.b5∧m.b5≤3000)∧m.g9<40∧A6 m.i0=true:=by
  rcases hm.kd with q | q | q | q | q | q | q
  ·omega
  ·omega
  ·exact ⟨q.2.1,q.2.2.1,q.2.2.2.1⟩
  all_goals exact absurd q.1 (by omega)
 have hs:=hm.sl
 obtain ⟨k,hsk⟩ : ∃ k:Nat,m.g9=(k:Int):=⟨m.g9.toNat,by omega⟩
 unfold a7w
 cases hp:a0K n.Acc m.b5 m.g9 m.i0 with
 | none =>
  rw [hsk] at hp
  have:=e7G hp (by omega) hb.2.2 hb.1
  refine ⟨h,rfl,fun x hx => ?_⟩
  rw [List.mem_singleton.1 hx]
  exact b0K hm (.refuse (by have:=h.pr; omega)) (by simp)
 | some a =>
  refine ⟨(h.cast hp).yield m.b5,c0l _ _,fun x hx => ?_⟩
  rw [List.mem_singleton.1 hx]
  exact b0K hm (.one (.inr rfl) hb.1) hs
theorem d8Q {n:j3} (h:NI n) {m:j7} (hm:MI m) (hk:m.b7=2):a0V n (a7O n m):=by
 have hkd:(m.a0.length≤40 ∧ ∀ v∈m.a0,VI v)∧m.g9+m.a0.length≤40:=by
  rcases hm.kd with q | q | q | q | q | q | q
  ·omega
  ·exact ⟨q.2.2.2.1,q.2.2.2.2⟩
  all_goals exact absurd q.1 (by omega)
 have hs:=hm.sl
 have hf:=hm.fr
 unfold a7O
 cases hc:n.d8 != 1||m.b5 != n.b5
 ·simp only [Bool.or_eq_false_iff,bne_eq_false_iff_eq] at hc
  simp only [cond_false]
  have hl:Own n∧n.b6.length=3∧n.b6[n.Id.toNat]?=some true∧n.d6=zE∧n.a0=[]:=by
   rcases h.ld with q | q | q | q
   ·omega
   ·exact q.2
   all_goals exact absurd q.1 (by omega)
  have hbl:=b63 n.i5 (List.replicate m.g9.toNat v0++m.a0)
  have hob:=hl.1.bl
  have hlen:(List.replicate m.g9.toNat v0++m.a0).length≤40:=by simp; omega
  have hbs : ∀ v∈O0 n.i5 (List.replicate m.g9.toNat v0++m.a0),VI v:=fun v hv=>(c6m hv).elim (fun q=>hl.1.bs v q) (fun q=>(List.mem_append.1 q).elim (fun q=>by rw [(List.mem_replicate.1 q).2]; exact .inl rfl) (hkd.1.2 v))
  cases two (n.b6.set m.b6.toNat true)
  ·simp only [cond_false]
   refine ⟨⟨h.id,h.pr,h.vl,h.vs,h.kl,h.ks,h.sq,h.ql,h.qs,.inr (.inl ⟨hc.1,⟨hl.1.b1,hl.1.b2,hl.1.mod,hl.1.pr,by show (O0 _ _).length≤40; omega,hbs⟩,by simp [hl.2.1],?_,hl.2.2.2.1,hl.2.2.2.2⟩),h.wt⟩,rfl,by simp⟩
   show (n.b6.set m.b6.toNat true)[n.Id.toNat]?=some true
   by_cases q:m.b6.toNat=n.Id.toNat
   ·rw [q,List.getElem?_set_self (by have:=h.id; omega)]
   ·rw [List.getElem?_set_ne q]; exact hl.2.2.1
  ·simp only [cond_true]
   refine a0V.to (n:=n) (n':={ n with b6:=[],i5:=O0 n.i5 (List.replicate m.g9.toNat v0++m.a0),d8:=2 }) rfl (b4e ?_)
   exact ⟨h.id,h.pr,h.vl,h.vs,h.kl,h.ks,h.sq,h.ql,h.qs,.inr (.inr (.inl ⟨rfl,⟨hl.1.b1,hl.1.b2,hl.1.mod,hl.1.pr,by show (O0 _ _).length≤40; omega,hbs⟩,rfl,hl.2.2.2.1,hl.2.2.2.2⟩)),h.wt⟩
 ·exact .same h
theorem e4p {n:j3} (h:NI n) {m:j7} (hm:MI m):a7Y n (a9j n m):=by
 have hf:=hm.fr
 unfold a9j
 cases hc:n.d8 != 3||(m.b5 != n.b5||m.g9 != (n.a6.length:Int))
 ·simp only [Bool.or_eq_false_iff,bne_eq_false_iff_eq] at hc
  simp only [cond_false]
  have hl:Own n∧n.b6=[]∧A6 n.d6=true∧n.a0.length=3∧n.a0[n.Id.toNat]?=some true∧n.a6.length<40:=by
   rcases h.ld with q | q | q | q
   ·omega
   ·omega
   ·omega
   ·exact q.2
  have hn:NI { n with a0:=n.a0.set m.b6.toNat true }:=by
   refine ⟨h.id,h.pr,h.vl,h.vs,h.kl,h.ks,h.sq,h.ql,h.qs,.inr (.inr (.inr ⟨hc.1,⟨hl.1.b1,hl.1.b2,hl.1.mod,hl.1.pr,hl.1.bl,hl.1.bs⟩,hl.2.1,hl.2.2.1,by simp [hl.2.2.2.1],?_,hl.2.2.2.2.2⟩)),h.wt⟩
   show (n.a0.set m.b6.toNat true)[n.Id.toNat]?=some true
   by_cases q:m.b6.toNat=n.Id.toNat
   ·rw [q,List.getElem?_set_self (by have:=h.id; omega)]
   ·rw [List.getElem?_set_ne q]; exact hl.2.2.2.2.1
  cases two (n.a0.set m.b6.toNat true)
  ·exact ⟨hn,rfl,by simp,by simp⟩
  ·simp only [cond_true]
   have hr:=c6i hn hl.2.2.1 hl.2.2.2.2.2
   refine ⟨hr.ni,hr.id,fun x hx => ?_,hr.ts⟩
   rcases List.mem_append.1 hx with q | q
   ·exact a7h h.id (.chosen (by omega) hl.2.2.1) (by simp only; omega) x q
   ·exact hr.ms x q
 ·exact .same h
theorem e5D {n:j3} (h:NI n) {m:j7} (hm:MI m) (hk:m.b7=5):a7Y n (b1u n m):=by
 have hkd:m.g9<40∧A6 m.i0=true:=by
  rcases hm.kd with q | q | q | q | q | q | q
  ·omega
  ·omega
  ·omega
  ·exact ⟨q.2.2.1,q.2.2.2.1⟩
  all_goals exact absurd q.1 (by omega)
 have hkl:=h.kl
 unfold b1u
 cases h1:decide (m.g9<(n.a6.length:Int))
 ·cases h2:decide (m.g9>(n.a6.length:Int))
  ·simp only [decide_eq_false_iff_not] at h1 h2
   exact c6i h hkd.2 (by omega)
  ·refine ⟨h,rfl,fun x hx => ?_,by simp⟩
   rw [List.mem_singleton.1 hx]
   exact b0K hm .need (by simp only; omega)
 ·exact .same h
theorem e1A {n:j3} (h:NI n) {m:j7} (hm:MI m) (hk:m.b7=7):a0V n (a7G n m):=by
 have hkd:A6 m.i0=true∧m.i0.g8=false:=by
  rcases hm.kd with q | q | q | q | q | q | q
  ·omega
  ·omega
  ·omega
  ·omega
  ·omega
  ·exact ⟨q.2.2.2.1,q.2.2.2.2.1⟩
  ·omega
 unfold a7G
 cases hc:n.d8==0||(decide (4≤n.b8.length)||a0D n.a6 m.i0.a5)
 ·simp only [cond_false]
  simp only [Bool.or_eq_false_iff,decide_eq_false_iff_not] at hc
  refine a0V.to (n:=n) (n':={ n with b8:=n.b8++[m.i0] }) rfl (b4e (h.queue (by simp; omega) ?_))
  intro e he
  rcases List.mem_append.1 he with q | q
  ·exact h.qs e q
  ·rw [List.mem_singleton.1 q]; exact hkd
 ·exact .same h
theorem d7w {n:j3} (h:NI n) {m:j7} (hm:MI m) : ∀ x∈a8c n m,MI x:=by
 intro x hx
 unfold a8c at hx
 obtain ⟨l,hl,hx⟩:=List.mem_flatten.1 hx
 obtain ⟨j,hj,rfl⟩:=List.mem_map.1 hl
 have hkl:=h.kl
 unfold a4t at hx
 cases hg:n.a6[m.g9.toNat+j]? with
 | none=>rw [hg] at hx; cases hx
 | some e =>
  rw [hg] at hx
  have hlt:=(List.getElem?_eq_some_iff.1 hg).1
  rw [List.mem_singleton.1 hx]
  exact b0K hm (.chosen (by omega) (h.ks e (List.mem_of_getElem? hg))) (by simp only; omega)
theorem e6n {n:j3} (h:NI n) {m:j7} (hm:MI m):a7Y n (a4k n m):=by
 unfold a4k
 by_cases k1:m.b7=1
 ·rw [show (m.b7==1)=true by simpa using k1]; exact (d7s h hm k1).three
 rw [show (m.b7==1)=false by simpa using k1]
 by_cases k2:m.b7=2
 ·rw [show (m.b7==2)=true by simpa using k2]; exact (d8Q h hm k2).three
 rw [show (m.b7==2)=false by simpa using k2]
 by_cases k3:m.b7=3
 ·rw [show (m.b7==3)=true by simpa using k3]; exact (e7h h hm k3).three
 rw [show (m.b7==3)=false by simpa using k3]
 by_cases k4:m.b7=4
 ·rw [show (m.b7==4)=true by simpa using k4]; exact e4p h hm
 rw [show (m.b7==4)=false by simpa using k4]
 by_cases k5:m.b7=5
 ·rw [show (m.b7==5)=true by simpa using k5]; exact e5D h hm k5
 rw [show (m.b7==5)=false by simpa using k5]
 by_cases k6:m.b7=6
 ·rw [show (m.b7==6)=true by simpa using k6]
  simp only [cond_true,cond_false]
  cases hp:a0g n.Acc m.b5 with
  | none=>exact ⟨h.yield _,c0l _ _,by simp,by simp⟩
  | some a=>exact ⟨(h.promise hp).yield _,c0l _ _,by simp,by simp⟩
 rw [show (m.b7==6)=false by simpa using k6]
 by_cases k7:m.b7=7
 ·rw [show (m.b7==7)=true by simpa using k7]; exact (e1A h hm k7).three
 rw [show (m.b7==7)=false by simpa using k7]
 cases m.b7==8
 ·exact .same h
 ·exact ⟨h,rfl,d7w h hm,by simp⟩
structure e5Q (n x:j3):Prop where
 id:x.Id=n.Id
 known:x.a6=n.a6
 seq:x.Seq=n.Seq
 busy:x.i7=n.i7
 prog:x.i4=n.i4
 want:x.c8=n.c8
theorem c7z (n:j3):e5Q n (a1C n).1:=by
 unfold a1C
 cases n.d8 != 2||decide (40≤n.a6.length)
 ·simp only [cond_false]
  obtain ⟨q,hq,_⟩:=c5q n
  cases hx:a4H n with
  | mk x o =>
  rw [hx] at hq
  have hq:x={ n with b8:=q }:=hq
  subst hq
  cases o with
  | none=>exact ⟨rfl,rfl,rfl,rfl,rfl,rfl⟩
  | some e =>
   simp only [b2y]
   cases a0K n.Acc n.b5 (n.a6.length:Int) e<;>exact ⟨rfl,rfl,rfl,rfl,rfl,rfl⟩
 ·exact ⟨rfl,rfl,rfl,rfl,rfl,rfl⟩
def a5P (n:j3):List l9:=(q8 n.a6).1.d7
theorem d2D {n:j3} (h:NI n):E0 (a5P n)=true:=by
 obtain ⟨a,b⟩:=a2j h.list
 have:=(a1q a b n.a6.length (Nat.le_refl _)).1.boxes
 rwa [List.take_length] at this
theorem e0A {n:j3} (h:NI n):b7S n=some (q8 n.a6).1:=by
 unfold b7S
 rw [b0f h.ok,Option.bind_some,a72.2 h]
 simp only [Bool.not_true,cond_false]
 rw [c9M (okEntries.f h.ok.2.2.1) h.list]
 rfl
theorem e4M {l:List l9} {p:List m5} (h:(D6 l p).Code≠3):H7 p=true:=by
 unfold D6 at h
 cases hp:H7 p
 ·rw [hp,Bool.and_false] at h; exact absurd rfl h
 ·rfl
def a2s (n:j3) (prog:List m5):j3:={ n with Seq:=n.Seq+1,i7:=true,i4:=prog,c8:=⟨false,⟨n.Id,n.Seq+1⟩,D6 (a5P n) prog⟩ }
def a0z (n:j3) (prog:List m5):Bool := !(n.i7||(n.Seq==1000||(D6 (a5P n) prog).Code==3))
theorem c4g {n:j3} {prog:List m5}:a0z n prog=true↔n.i7=false∧n.Seq≠1000∧(D6 (a5P n) prog).Code≠3:=by
 unfold a0z
 simp
theorem b6Z {n:j3} (h:NI n) {prog:List m5} (hp:s8 prog) (hc:a0z n prog=true):A6 (a2s n prog).c8=true∧H7 prog=true:=by
 obtain ⟨h1,h2,h3⟩:=c4g.1 hc
 have hr:=(b6S (d2D h) hp).ok
 have hs:=h.sq
 have hid:=h.id
 refine ⟨?_,e4M h3⟩
 unfold A6 a2s
 simp only [cond_false,Bool.and_eq_true,Y1,hr,true_and,bne_iff_ne,ne_eq]
 exact ⟨⟨hid,by omega⟩,h3⟩
theorem NI.asked {n:j3} (h:NI n) {prog:List m5} (hp:s8 prog) (hc:a0z n prog=true):NI (a2s n prog):=by
 obtain ⟨h1,h2,h3⟩:=c4g.1 hc
 obtain ⟨h4,h5⟩:=b6Z h hp hc
 have hs:=h.sq
 exact ⟨h.id,h.pr,h.vl,h.vs,h.kl,h.ks,by show 0≤n.Seq+1∧n.Seq+1≤1000; omega,h.ql,h.qs,h.ld,.inl ⟨rfl,h5,h4,rfl,rfl⟩⟩
theorem b31 (n:j3) (prog:List m5):a12 n prog=bif a0z n prog then (bif n.d8==2 then a1C (a2s n prog) else (a2s n prog,bif n.d8==0 then a0r n.Id ⟨7,0,0,0,0,(a2s n prog).c8,[]⟩ else [])) else (n,[]):=by
 unfold a12 a0z a2s a5P
 cases n.i7||(n.Seq==1000||(D6 (q8 n.a6).1.d7 prog).Code==3)<;>rfl
theorem e7z {n:j3} (h:NI n) {prog:List m5} (hp:B9 32 okT prog):b60 n prog=some ((a12 n prog).1,(a12 n prog).2,[]):=by
 have hf:s8 prog:=hp.fits (by decide)
 have hs:=h.sq
 unfold b60
 rw [b0f h.ok,Option.bind_some,a72.2 h,b2q h.ok,e0A h,b31]
 simp only [Bool.not_true,cond_false,Option.bind_some]
 rw [show (q8 n.a6).1.d7=a5P n from rfl,c1C (a3w (d2D h)) hf,Option.bind_some]
 cases hb:n.i7
 ·cases hq:n.Seq==1000
  ·cases hc:(D6 (a5P n) prog).Code==3
   ·have hca:a0z n prog=true:=by unfold a0z; rw [hb,hq,hc]; rfl
    have hn:=h.asked hf hca
    rw [hca]
    simp only [cond_true,cond_false]
    rw [u7 (by have:=hp.1; simp; omega),D4 (by omega) (by omega)]
    cases h2:n.d8==2
    ·cases h0:n.d8==0
     ·rfl
     ·simp only [cond_false,cond_true]
      rw [a6A h.id (show a3f ⟨7,0,0,0,0,⟨false,⟨n.Id,n.Seq+1⟩,D6 (a5P n) prog⟩,[]⟩ from a8I (A7 (by omega)) a1t a1t (a3P (b6Z h hf hca).1) a0s)]
      rfl
    ·simp only [cond_true]
     rw [show (⟨n.Id,n.Acc,n.a6,n.Seq+1,n.d8,n.b5,n.b6,n.i5,n.d6,n.a0,true,[]++prog,⟨false,⟨n.Id,n.Seq+1⟩,D6 (a5P n) prog⟩,n.b8⟩:j3)=a2s n prog from rfl,b2e hn.ok hn.id,Option.bind_some]
   ·have hca:a0z n prog=false:=by unfold a0z; rw [hb,hq,hc]; rfl
    rw [hca]; rfl
  ·have hca:a0z n prog=false:=by unfold a0z; rw [hb,hq]; rfl
   rw [hca]; rfl
 ·have hca:a0z n prog=false:=by unfold a0z; rw [hb]; rfl
  rw [hca]; rfl
theorem e2w {n:j3} (h:NI n) {prog:List m5} (hp:s8 prog):a0V n (a12 n prog):=by
 rw [b31]
 cases hc:a0z n prog
 ·exact .same h
 ·have hn:=h.asked hp hc
  simp only [cond_true]
  cases n.d8==2
  ·refine ⟨hn,rfl,fun x hx => ?_⟩
   simp only [cond_false] at hx
   cases h0:n.d8==0
   ·rw [h0] at hx; cases hx
   ·rw [h0] at hx
    exact a7h h.id (.ask (b6Z h hp hc).1 rfl) (by simp) x hx
  ·exact a0V.to (n:=n) (n':=a2s n prog) rfl (b4e hn)
theorem d4u {b who:Int} (hb:0≤b∧b≤3000) (hw:0≤who∧who≤2):a1E b who = -1∨(b<a1E b who∧a1E b who≤b+3∧a1E b who≤3000∧Int.tmod (a1E b who) 3=who):=by
 unfold a1E
 cases h1:decide (b+1≤3000)&&(Int.tmod (b+1) 3==who)
 ·cases h2:decide (b+2≤3000)&&(Int.tmod (b+2) 3==who)
  ·cases h3:decide (b+3≤3000)&&(Int.tmod (b+3) 3==who)
   ·exact .inl rfl
   ·simp only [Bool.and_eq_true,decide_eq_true_eq,beq_iff_eq] at h3
    exact .inr ⟨by simp only [cond_true,cond_false]; omega,by simp only [cond_true,cond_false]; omega,h3.1,h3.2⟩
  ·simp only [Bool.and_eq_true,decide_eq_true_eq,beq_iff_eq] at h2
   exact .inr ⟨by simp only [cond_true,cond_false]; omega,by simp only [cond_true,cond_false]; omega,h2.1,h2.2⟩
 ·simp only [Bool.and_eq_true,decide_eq_true_eq,beq_iff_eq] at h1
  exact .inr ⟨by simp only [cond_true,cond_false]; omega,by simp only [cond_true,cond_false]; omega,h1.1,h1.2⟩
theorem d9L {n:j3} (h:NI n):b8m n=some (a56 n):=by
 unfold b8m a56
 rw [b0f h.ok,Option.bind_some,a72.2 h,b2q h.ok]
 simp only [Bool.not_true,cond_false,Option.bind_some]
 rw [d8Z h.pr h.id,Option.bind_some]
 cases hd:decide (a1E n.Acc.g7 n.Id<0)
 ·simp only [decide_eq_false_iff_not] at hd
  rcases d4u h.pr h.id with q | ⟨q1,q2,q3,q4⟩
  ·omega
  ·have hpr:=h.pr
   have hkl:=h.kl
   obtain ⟨y,hy⟩:=d22 h.id
   simp only [cond_false,b2d,Option.bind_some,b5A,c5O (a:=n.Acc) (show 1≤a1E n.Acc.g7 n.Id by omega) q3 (by omega),hy,d65 h.ok.2.1.2]
   rw [u7 (by omega),u7 trivial,a6A h.id (a8I (A7 (by omega)) (A7 (by omega)) (A7 (by omega)) a2u a0s)]
   rfl
 ·rfl
theorem e1p {n:j3} (h:NI n):a0V n (a56 n):=by
 unfold a56
 cases hd:decide (a1E n.Acc.g7 n.Id<0)
 ·simp only [decide_eq_false_iff_not] at hd
  have hpr:=h.pr
  have hkl:=h.kl
  rcases d4u h.pr h.id with q | ⟨q1,q2,q3,q4⟩
  ·omega
  ·obtain ⟨m1,m2⟩:=c1J h.id
   refine ⟨⟨h.id,⟨by simp only [cond_false]; omega,q3⟩,h.vl,fun v hv=>⟨(h.vs v hv).1,Int.le_trans (h.vs v hv).2 (Int.le_of_lt q1)⟩,h.kl,h.ks,h.sq,h.ql,h.qs,.inr (.inl ⟨rfl,⟨by simp only [cond_false]; omega,q3,q4,Int.le_refl _,h.vl,fun v hv=>(h.vs v hv).1⟩,m1,m2,rfl,rfl⟩),h.wt⟩,rfl,?_⟩
   exact a7h h.id (.one (.inl rfl) ⟨by omega,q3⟩) (by simp only; omega)
 ·exact .same h
theorem c9A {k b s:Int} (hk:0≤k∧k≤8) (hb:0≤b∧b≤3000) (hs:0≤s∧s≤40):a3f ⟨k,0,0,b,s,zE,[]⟩:=a8I (A7 (by omega)) (A7 (by omega)) (A7 (by omega)) a2u a0s
theorem d6B {n:j3} (h:NI n):b9a n=some ((a5g n).1,(a5g n).2,[]):=by
 have hkl:=h.kl
 have hb:=h.ld.bal
 have l1:=a27 n.Id ⟨8,0,0,0,(n.a6.length:Int),zE,[]⟩
 unfold b9a a5g
 rw [b0f h.ok,Option.bind_some,a72.2 h,b2q h.ok]
 simp only [Bool.not_true,cond_false,Option.bind_some]
 rw [a6A h.id (c9A (by omega) (by omega) (by omega)),Option.bind_some]
 cases h1:n.d8==1
 ·cases h2:n.d8==2
  ·cases h3:n.d8==3
   ·cases hbz:n.i7
    ·rfl
    ·simp only [cond_true,cond_false]
     have l2:=a27 n.Id ⟨7,0,0,0,0,n.c8,[]⟩
     have hw:H2 n.c8:=h.ok.2.2.2.2.2.2.2.2.2.2.2.1
     rw [a6A h.id (a8I (A7 (by omega)) a1t a1t hw a0s),Option.bind_some,u7 (by omega)]
     rfl
   ·simp only [cond_true,cond_false]
    have l2:=a27 n.Id ⟨3,0,0,n.b5,(n.a6.length:Int),n.d6,[]⟩
    rw [a6A h.id (a8I (A7 (by omega)) (A7 (by omega)) (A7 (by omega)) h.ld.from3.2.2 a0s),Option.bind_some,u7 (by omega)]
    rfl
  ·simp only [cond_true,cond_false]
   have l2:=a7P n
   rw [b2e h.ok h.id,Option.bind_some,u7 (by omega)]
   rfl
 ·simp only [cond_true,cond_false]
  have l2:=a27 n.Id ⟨1,0,0,n.b5,(n.a6.length:Int),zE,[]⟩
  rw [a6A h.id (c9A (by omega) (by omega) (by omega)),Option.bind_some,u7 (by omega)]
  rfl
theorem d8L {n:j3} (h:NI n):a0V n (a5g n):=by
 have hkl:=h.kl
 have hb:=h.ld.bal
 have a1 : ∀ x∈a0r n.Id ⟨8,0,0,0,(n.a6.length:Int),zE,[]⟩,MI x:=a7h h.id .need (by simp only; omega)
 have two : ∀ {l:List j7},(∀ x∈l,MI x) → ∀ x∈a0r n.Id ⟨8,0,0,0,(n.a6.length:Int),zE,[]⟩++l,MI x:=by
  intro l hl x hx
  rcases List.mem_append.1 hx with q | q
  ·exact a1 x q
  ·exact hl x q
 unfold a5g
 by_cases h1:n.d8=1
 ·rw [show (n.d8==1)=true by simpa using h1]
  refine ⟨h,rfl,two (a7h h.id (.one (.inl rfl) ?_) (by simp only; omega))⟩
  rcases h.ld with q | q | q | q
  ·omega
  ·exact ⟨q.2.1.b1,q.2.1.b2⟩
  all_goals exact absurd q.1 (by omega)
 rw [show (n.d8==1)=false by simpa using h1]
 by_cases h2:n.d8=2
 ·rw [show (n.d8==2)=true by simpa using h2]
  have:=b4e h
  exact ⟨this.ni,this.id,two this.ms⟩
 rw [show (n.d8==2)=false by simpa using h2]
 by_cases h3:n.d8=3
 ·rw [show (n.d8==3)=true by simpa using h3]
  rcases h.ld with q | q | q | q
  ·omega
  ·omega
  ·omega
  ·exact ⟨h,rfl,two (a7h h.id (.accept ⟨q.2.1.b1,q.2.1.b2⟩ (by omega) q.2.2.2.1) (by simp only; omega))⟩
 rw [show (n.d8==3)=false by simpa using h3]
 cases hbz:n.i7
 ·exact ⟨h,rfl,a1⟩
 ·rcases h.wt with q | q
  ·exact ⟨h,rfl,two (a7h h.id (.ask q.2.2.1 q.2.2.2.1) (by simp))⟩
  ·rw [hbz] at q; cases q.1
theorem d9V {n:j3} (h:NI n):b6J n=some (b2Z n):=by
 unfold b6J
 rw [b0f h.ok,Option.bind_some,a72.2 h,b2q h.ok]
 rfl
theorem NI.open {id:Int} (h:0≤id∧id≤2):NI (M7 id) :=
 ⟨h,⟨by simp [M7],by simp [M7]⟩,by simp [M7],by simp [M7],by simp [M7],by simp [M7],⟨by simp [M7],by simp [M7]⟩,by simp [M7],by simp [M7],.inl ⟨rfl,rfl,rfl,rfl,rfl,rfl⟩,.inr ⟨rfl,rfl,rfl⟩⟩
theorem NI.fall {n:j3} (h:NI n):NI (b2Z n) :=
 ⟨h.id,h.pr,h.vl,h.vs,h.kl,h.ks,h.sq,by simp [b2Z,M7],by simp [b2Z,M7],.inl ⟨rfl,rfl,rfl,rfl,rfl,rfl⟩,.inr ⟨rfl,rfl,rfl⟩⟩
theorem c7y {l:List j7} (hl:s8 l) (ho : ∀ m∈l,a3f m) : ∀ (d k:Nat) (net:List j7),l.length - k=d→q7 (fun s:(List j7)×Int=>a3V l s.1 s.2) (net,(k:Int))=some (.brk (net++(l.drop k).take (40 - net.length)))
 | 0,k,net,hd=>by
  rw [List.drop_eq_nil_of_le (by omega)]
  refine (G5 (b:=net) ?_).trans (by simp)
  show a3V l net (k:Int)=_
  unfold a3V
  rw [show decide ((k:Int)<(l.length:Int))=false by simp; omega]
  rfl
 | d+1,k,net,hd=>by
  have hlt:k<l.length:=by omega
  by_cases hn:net.length<40
  ·have hb:a3V l net (k:Int)=some (.nxt (net++[l[k]],((k+1:Nat):Int))):=by
    unfold a3V
    rw [x9 _ k hlt,show decide ((net.length:Int)<40)=true by simp; omega,cond_true,cond_true,t9 hlt,Option.bind_some,b65 (ho _ (List.getElem_mem hlt)),Option.bind_some,u7 (by omega),J2 hl hlt]
   rw [M5 (body:=fun s:(List j7)×Int=>a3V l s.1 s.2) (s:=(net,(k:Int))) hb,c7y hl ho d (k+1) _ (by omega),List.drop_eq_getElem_cons hlt]
   rw [show 40 - net.length=(40 - (net++[l[k]]).length)+1 by simp; omega,List.take_succ_cons,List.append_assoc]
   rfl
  ·refine (G5 (b:=net) ?_).trans (by rw [show 40 - net.length=0 by omega]; simp)
   show a3V l net (k:Int)=_
   unfold a3V
   rw [x9 _ k hlt,show decide ((net.length:Int)<40)=false by simp; omega]
   rfl
theorem a6I (w:m3) {l:List j7} (hl:s8 l) (ho : ∀ m∈l,a3f m):a38 w l=some (a4g w l):=by
 unfold a38
 rw [show q7 (fun s:(List j7)×Int=>a3V l s.1 s.2) (w.Net,0)=_ from c7y hl ho l.length 0 w.Net rfl]
 rfl
theorem d40 {l:List m7} (hl:s8 l) : ∀ (d k:Nat) (o:List m7),l.length - k=d→q7 (fun s:(List m7)×Int=>a3X l s.1 s.2) (o,(k:Int))=some (.brk (o++(l.drop k).take (60 - o.length)))
 | 0,k,o,hd=>by
  rw [List.drop_eq_nil_of_le (by omega)]
  refine (G5 (b:=o) ?_).trans (by simp)
  show a3X l o (k:Int)=_
  unfold a3X
  rw [show decide ((k:Int)<(l.length:Int))=false by simp; omega]
  rfl
 | d+1,k,o,hd=>by
  have hlt:k<l.length:=by omega
  by_cases hn:o.length<60
  ·have hb:a3X l o (k:Int)=some (.nxt (o++[l[k]],((k+1:Nat):Int))):=by
    unfold a3X
    rw [x9 _ k hlt,show decide ((o.length:Int)<60)=true by simp; omega,cond_true,cond_true,t9 hlt,Option.bind_some,u7 (by omega),J2 hl hlt]
   rw [M5 (body:=fun s:(List m7)×Int=>a3X l s.1 s.2) (s:=(o,(k:Int))) hb,d40 hl d (k+1) _ (by omega),List.drop_eq_getElem_cons hlt]
   rw [show 60 - o.length=(60 - (o++[l[k]]).length)+1 by simp; omega,List.take_succ_cons,List.append_assoc]
   rfl
  ·refine (G5 (b:=o) ?_).trans (by rw [show 60 - o.length=0 by omega]; simp)
   show a3X l o (k:Int)=_
   unfold a3X
   rw [x9 _ k hlt,show decide ((o.length:Int)<60)=false by simp; omega]
   rfl
theorem a7V (w:m3) {l:List m7} (hl:s8 l):a4X w l=some (a91 w l):=by
 unfold a4X
 rw [show q7 (fun s:(List m7)×Int=>a3X l s.1 s.2) (w.Told,0)=_ from d40 hl l.length 0 w.Told rfl]
 rfl
theorem a86 (w:m3):a91 w []=w:=by
 unfold a91; simp
theorem d1u (w:m3):a4g w []=w:=by
 unfold a4g; simp
theorem e25 {w:m3} {k:Nat} (hk:k<w.Net.length) (hl:w.Net.length≤40):b34 w (k:Int)=some (a58 w (k:Int)):=by
 unfold b34 a58
 rw [u7 (by omega),u7 (by simp; omega),D4 (by omega) (by omega),u7 (by omega),u7 (by simp; omega)]
 simp only [List.nil_append,Nat.add_zero,List.drop_zero,Nat.sub_zero,Int.toNat_natCast,Nat.zero_add,show ((k:Int)+1).toNat=k+1 by omega]
 rw [List.take_of_length_le (l:=w.Net.drop (k+1)) (by simp)]
theorem c1z {w:m3} (h:WI w) {i:Nat} (hi:i<3) : ∃ n,w.Nodes[i]?=some n∧a1h w (i:Int)=n∧n.Id=(i:Int)∧NI n∧i<w.Nodes.length:=by
 have hl:=h.nl
 have hg:=List.getElem?_eq_getElem (l:=w.Nodes) (i:=i) (by omega)
 obtain ⟨h1,h2⟩:=h.ns i _ hg
 refine ⟨_,hg,?_,h1,h2,by omega⟩
 unfold a1h
 rw [Int.toNat_natCast,List.getD_eq_getElem?_getD,hg]; rfl
theorem WI.put {w:m3} (h:WI w) {i:Nat} {n:j3} (hid:n.Id=(i:Int)) (hn:NI n):WI (a3q w (i:Int) n):=by
 refine ⟨by simp [a3q,h.nl],?_,h.ml,h.ms,h.al,h.aq,h.tl,h.ts⟩
 intro j m hm
 simp only [a3q,Int.toNat_natCast] at hm
 by_cases q:i=j
 ·subst q
  have hlt:=(List.getElem?_eq_some_iff.1 hm).1
  rw [List.length_set] at hlt
  rw [List.getElem?_set_self hlt] at hm
  injection hm with hm; subst hm
  exact ⟨hid,hn⟩
 ·rw [List.getElem?_set_ne q] at hm
  exact h.ns j m hm
theorem WI.send {w:m3} (h:WI w) {l:List j7} (hl : ∀ m∈l,MI m):WI (a4g w l):=by
 have:=h.ml
 refine ⟨h.nl,h.ns,by simp only [a4g,List.length_append,List.length_take]; omega,?_,h.al,h.aq,h.tl,h.ts⟩
 intro m hm
 rcases List.mem_append.1 hm with q | q
 ·exact h.ms m q
 ·exact hl m (List.mem_of_mem_take q)
theorem WI.tell {w:m3} (h:WI w) {l:List m7} (hl : ∀ t∈l,Y5 t=true):WI (a91 w l):=by
 have:=h.tl
 refine ⟨h.nl,h.ns,h.ml,h.ms,h.al,h.aq,by simp only [a91,List.length_append,List.length_take]; omega,?_⟩
 intro m hm
 rcases List.mem_append.1 hm with q | q
 ·exact h.ts m q
 ·exact hl m (List.mem_of_mem_take q)
theorem WI.off {w:m3} (h:WI w) (i:Int):WI (a58 w i):=by
 have:=h.ml
 refine ⟨h.nl,h.ns,by simp only [a58,List.length_append,List.length_take,List.length_drop]; omega,?_,h.al,h.aq,h.tl,h.ts⟩
 intro m hm
 rcases List.mem_append.1 hm with q | q
 ·exact h.ms m (List.mem_of_mem_take q)
 ·exact h.ms m (List.mem_of_mem_drop q)
theorem b0i {l:List j7} (h:l.length≤100):s8 l:=by unfold s8; omega
theorem e5L (n:j3) (p:List m5):(a12 n p).2.length≤3:=by
 rw [b31]
 cases a0z n p
 ·simp
 ·cases n.d8==2
  ·cases n.d8==0
   ·simp
   ·exact a27 _ _
  ·exact a7P _
theorem MI.okl {l:List j7} (h : ∀ m∈l,MI m) : ∀ m∈l,a3f m:=fun m hm=>(h m hm).ok
theorem d9y (n:j3) (p:List m5):decide ((a12 n p).1.Seq>n.Seq)=a0z n p:=by
 rw [b31]
 cases a0z n p
 ·simp
 ·simp only [cond_true]
  cases n.d8==2
  ·simp [a2s]; omega
  ·have:=(c7z (a2s n p)).seq
   simp only [cond_true,this]
   simp [a2s]; omega
theorem e5N {n:j3} {p:List m5} (h:a0z n p=true):(a12 n p).1.c8=(a2s n p).c8:=by
 rw [b31,h]
 simp only [cond_true]
 cases n.d8==2
 ·rfl
 ·exact (c7z (a2s n p)).want
def e46 (w:m3) (a:r9):m3:={ w with Asked:=w.Asked++[a] }
theorem WI.addAsked {w:m3} (h:WI w) {a:r9} (hl:w.Asked.length<60) (ha:a1F a=true):WI (e46 w a):=by
 refine ⟨h.nl,h.ns,h.ml,h.ms,by simp only [e46,List.length_append,List.length_singleton]; omega,?_,h.tl,h.ts⟩
 intro x hx
 rcases List.mem_append.1 hx with q | q
 ·exact h.aq x q
 ·rw [List.mem_singleton.1 q]; exact ha
theorem e3T {w:m3} (h:WI w) {i:Nat} (hi:i<3) {p:List m5} (hp:B9 32 okT p):b6a w (i:Int) p=some (b8k w (i:Int) p)∧WI (b8k w (i:Int) p):=by
 obtain ⟨n,hg,hn,hid,hni,hlt⟩:=c1z h hi
 have hf:s8 p:=hp.fits (by decide)
 have hr:=e2w hni hf
 have hln:=e5L n p
 have hms:=MI.okl hr.ms
 have hal:=h.al
 unfold b6a b8k
 rw [hn,show decide ((w.Asked.length:Int)≥60)=decide (60≤w.Asked.length) by simp; omega,b5o,hg,Option.bind_some,e7z hni hp,Option.bind_some]
 cases hd:decide (60≤w.Asked.length)
 ·simp only [cond_false]
  simp only [decide_eq_false_iff_not] at hd
  rw [d9y]
  cases hc:a0z n p
  ·simp only [cond_false]
   rw [a6I _ (b0i (by omega)) hms,Option.bind_some,a7V _ (by simp [s8]),a86]
   exact ⟨rfl,(h.put (hr.id.trans hid) hr.ni).send hr.ms⟩
  ·simp only [cond_true]
   rw [u7 (by have:=hp.1; simp; omega),u7 (by omega),a6I _ (b0i (by omega)) hms,Option.bind_some,a7V _ (by simp [s8]),a86]
   refine ⟨rfl,WI.send (w:=a3q (e46 w ⟨(a12 n p).1.c8.a5,p⟩) (i:Int) (a12 n p).1) (WI.put (w:=e46 w ⟨(a12 n p).1.c8.a5,p⟩) (h.addAsked (by omega) ?_) (hr.id.trans hid) hr.ni) hr.ms⟩
   rw [e5N hc]
   obtain ⟨w1,w2⟩:=b6Z hni hf hc
   obtain ⟨c1,c2,c3⟩:=c4g.1 hc
   unfold a1F
   have:=hni.id
   have:=hni.sq
   simp only [Bool.and_eq_true,Y1,w2,and_true]
   show (0≤n.Id∧n.Id≤2)∧1≤n.Seq+1∧n.Seq+1≤1000
   omega
 ·exact ⟨rfl,h⟩
theorem d8X {n:j3} (h:NI n) (m:j7):(a4k n m).2.1.length≤60∧(a4k n m).2.2.length≤1:=by
 have hkl:=h.kl
 have al : ∀ n:j3,(a2B n).2.length≤1:=fun n=>by
  rcases b78 n with q | ⟨k,_,_,q⟩<;>rw [q]<;>simp
 have ll : ∀ (n:j3) (e:l7),(a4s n e).2.1.length≤3∧(a4s n e).2.2.length≤1:=fun n e=>⟨a7P _,al _⟩
 have nl:(a8c n m).length≤40:=by
  unfold a8c
  have : ∀ d k:Nat,((List.range d).map fun j=>a4t n m (k+j)).flatten.length≤d:=by
   intro d k
   rw [List.length_flatten,List.map_map]
   have hs : ∀ (l:List Nat),((l.map (List.length ∘ fun j=>a4t n m (k+j))).sum)≤l.length:=by
    intro l
    induction l with
    | nil=>simp
    | cons x l ih =>
     simp only [List.map_cons,List.sum_cons,List.length_cons,Function.comp]
     have:(a4t n m (k+x)).length≤1:=by
      unfold a4t
      cases n.a6[k+x]?<;>simp
     omega
   have:=hs (List.range d)
   rwa [List.length_range] at this
  have:=this (n.a6.length - m.g9.toNat) m.g9.toNat
  omega
 unfold a4k
 cases m.b7==1
 ·cases m.b7==2
  ·cases m.b7==3
   ·cases m.b7==4
    ·cases m.b7==5
     ·cases m.b7==6
      ·cases m.b7==7
       ·cases m.b7==8
        ·exact ⟨by simp,by simp⟩
        ·exact ⟨by simp only [cond_true,cond_false]; omega,by simp⟩
       ·refine ⟨?_,by simp⟩
        simp only [cond_true,cond_false,a7G]
        cases n.d8==0||(decide (4≤n.b8.length)||a0D n.a6 m.i0.a5)
        ·exact Nat.le_trans (a7P _) (by omega)
        ·simp
      ·exact ⟨by simp,by simp⟩
     ·simp only [cond_true,cond_false,b1u]
      cases decide (m.g9<(n.a6.length:Int))
      ·cases decide (m.g9>(n.a6.length:Int))
       ·have:=ll n m.i0
        exact ⟨by simp only [cond_false]; omega,by simp only [cond_false]; omega⟩
       ·exact ⟨by simp,by simp⟩
      ·exact ⟨by simp,by simp⟩
    ·simp only [cond_true,cond_false,a9j]
     cases n.d8 != 3||(m.b5 != n.b5||m.g9 != (n.a6.length:Int))
     ·cases two (n.a0.set m.b6.toNat true)
      ·exact ⟨by simp,by simp⟩
      ·have h1:=ll { n with a0:=n.a0.set m.b6.toNat true } n.d6
       have h2:=a27 n.Id ⟨5,0,0,0,(n.a6.length:Int),n.d6,[]⟩
       exact ⟨by simp only [cond_true,cond_false,List.length_append]; omega,by simp only [cond_true,cond_false]; omega⟩
     ·exact ⟨by simp,by simp⟩
   ·refine ⟨?_,by simp⟩
    simp only [cond_true,cond_false,a7w]
    cases a0K n.Acc m.b5 m.g9 m.i0<;>simp
  ·refine ⟨?_,by simp⟩
   simp only [cond_true,cond_false,a7O]
   cases n.d8 != 1||m.b5 != n.b5
   ·cases two (n.b6.set m.b6.toNat true)
    ·simp
    ·exact Nat.le_trans (a7P _) (by omega)
   ·simp
 ·refine ⟨?_,by simp⟩
  simp only [cond_true,a73]
  cases a0g n.Acc m.b5<;>simp
theorem e2E {w:m3} (h:WI w) (e:n6):b0I w e=some (b2g w e)∧WI (b2g w e):=by
 have hml:=h.ml
 unfold b0I b2g
 by_cases h0:e.A<0
 ·rw [show decide (e.A<0)=true by simpa using h0,show decide (0≤e.A)=false by simp; omega]
  exact ⟨rfl,h⟩
 ·obtain ⟨k,hk⟩ : ∃ k:Nat,e.A=(k:Int):=⟨e.A.toNat,by omega⟩
  rw [hk,show decide ((k:Int)<0)=false by simp,show decide (0≤(k:Int))=true by simp,Int.toNat_natCast]
  simp only [cond_true,cond_false]
  by_cases hl:k<w.Net.length
  ·rw [show decide ((k:Int)≥(w.Net.length:Int))=false by simp; omega,t9 hl,List.getElem?_eq_getElem hl]
   have hm:=h.ms _ (List.getElem_mem hl)
   generalize w.Net[k]=m at hm
   simp only [cond_false,Option.bind_some,b65 hm.ok]
   cases e.b7==4
   ·simp only [cond_false]
    rw [e25 hl hml]
    cases e.b7==3
    ·simp only [cond_false,Option.bind_some]
     have ho:=h.off (k:Int)
     have ht:=hm.to
     obtain ⟨t,htt⟩ : ∃ t:Nat,m.To=(t:Int):=⟨m.To.toNat,by omega⟩
     obtain ⟨n,hg,hn,hid,hni,hlt⟩:=c1z ho (i:=t) (by omega)
     have hn':a1h w (t:Int)=n:=hn
     have hr:=e6n hni hm
     obtain ⟨l1,l2⟩:=d8X hni m
     rw [htt,b5o,hg,Option.bind_some,d7o hni hm,Option.bind_some,hn']
     rw [a6I _ (b0i (by omega)) (MI.okl hr.ms),Option.bind_some,a7V _ (by unfold s8; omega)]
     exact ⟨rfl,((ho.put (hr.id.trans hid) hr.ni).send hr.ms).tell hr.ts⟩
    ·exact ⟨rfl,h.off _⟩
   ·simp only [cond_true]
    have hs : ∀ x∈[m],MI x:=fun x hx=>by rw [List.mem_singleton.1 hx]; exact hm
    rw [a6I _ (b0i (by simp)) (MI.okl hs)]
    exact ⟨rfl,h.send hs⟩
  ·rw [show decide ((k:Int)≥(w.Net.length:Int))=true by simp; omega,List.getElem?_eq_none (by omega)]
   exact ⟨rfl,h⟩
def a0H (e:n6):Prop:=B9 32 okT e.i4
theorem d8t (n:j3):(a5g n).2.length≤6:=by
 have l0:=a27 n.Id ⟨8,0,0,0,(n.a6.length:Int),zE,[]⟩
 unfold a5g
 cases n.d8==1
 ·cases n.d8==2
  ·cases n.d8==3
   ·cases n.i7
    ·simp only [cond_false]; omega
    ·have:=a27 n.Id ⟨7,0,0,0,0,n.c8,[]⟩
     simp only [cond_true,cond_false,List.length_append]; omega
   ·have:=a27 n.Id ⟨3,0,0,n.b5,(n.a6.length:Int),n.d6,[]⟩
    simp only [cond_true,cond_false,List.length_append]; omega
  ·have:=a7P n
   simp only [cond_true,cond_false,List.length_append]; omega
 ·have:=a27 n.Id ⟨1,0,0,n.b5,(n.a6.length:Int),zE,[]⟩
  simp only [cond_true,List.length_append]; omega
theorem c6A (n:j3):(a56 n).2.length≤3:=by
 unfold a56
 cases decide (a1E n.Acc.g7 n.Id<0)
 ·exact a27 _ _
 ·simp
theorem c95 {w:m3} {i:Nat} {n:j3} (h:w.Nodes[i]?=some n):a3q w (i:Int) n=w:=by
 unfold a3q
 rw [Int.toNat_natCast]
 obtain ⟨hi,rfl⟩:=List.getElem?_eq_some_iff.1 h
 rw [List.set_getElem_self]
theorem b6P {w:m3} (h:WI w) {e:n6} (he:a0H e):a9Z w e=some (K1 w e)∧WI (K1 w e):=by
 obtain ⟨n1,n2⟩:=e2E h e
 unfold a9Z K1
 rw [n1]
 cases e.b7==2
 ·cases e.b7==3
  ·cases e.b7==4
   ·simp only [cond_false,Bool.or_self]
    by_cases h0:e.A<0
    ·rw [show decide (e.A<0)=true by simpa using h0,show p7 e.A 0 2=false by unfold p7; simp; omega]
     exact ⟨rfl,h⟩
    ·by_cases h3:e.A≥3
     ·rw [show decide (e.A<0)=false by simpa using h0,show decide (e.A≥3)=true by simpa using h3,show p7 e.A 0 2=false by unfold p7; simp; omega]
      exact ⟨rfl,h⟩
     ·obtain ⟨i,hi⟩ : ∃ i:Nat,e.A=(i:Int):=⟨e.A.toNat,by omega⟩
      rw [show decide (e.A<0)=false by simpa using h0,show decide (e.A≥3)=false by simpa using h3,show p7 e.A 0 2=true by unfold p7; simp; omega,hi]
      simp only [cond_false,Bool.not_true]
      obtain ⟨n,hg,hn,hid,hni,hlt⟩:=c1z h (i:=i) (by omega)
      rw [b5o,hg,Option.bind_some,hn]
      cases e.b7==1
      ·simp only [cond_false]
       cases e.b7==5
       ·simp only [cond_false]
        cases e.b7==6
        ·simp only [cond_false]
         cases e.b7==7
         ·simp only [cond_false]
          rw [a6I _ (by simp [s8]) (by simp),Option.bind_some,a7V _ (by simp [s8]),a86,d1u]
          exact ⟨congrArg some (c95 hg),h⟩
         ·simp only [cond_true]
          rw [d9V hni,Option.bind_some,a6I _ (by simp [s8]) (by simp),Option.bind_some,a7V _ (by simp [s8]),a86,d1u]
          exact ⟨rfl,h.put hid hni.fall⟩
        ·simp only [cond_true]
         have hr:=d8L hni
         have hl:=d8t n
         rw [d6B hni,Option.bind_some,a6I _ (b0i (by omega)) (MI.okl hr.ms),Option.bind_some,a7V _ (by simp [s8]),a86]
         exact ⟨rfl,(h.put (hr.id.trans hid) hr.ni).send hr.ms⟩
       ·simp only [cond_true]
        have hr:=e1p hni
        have hl:=c6A n
        rw [d9L hni,Option.bind_some,a6I _ (b0i (by omega)) (MI.okl hr.ms),Option.bind_some,a7V _ (by simp [s8]),a86]
        exact ⟨rfl,(h.put (hr.id.trans hid) hr.ni).send hr.ms⟩
      ·simp only [cond_true]
       obtain ⟨a1,a2⟩:=e3T h (i:=i) (by omega) he
       unfold c5b
       rw [hi,show (⟨w.Nodes.set (i:Int).toNat n,w.Net,w.Asked,w.Told⟩:m3)=w from c95 hg,a1]
       exact ⟨rfl,a2⟩
   ·exact ⟨rfl,n2⟩
  ·exact ⟨rfl,n2⟩
 ·exact ⟨rfl,n2⟩
theorem WI.open:WI a3o:=by
 refine ⟨rfl,?_,by simp [a3o],by simp [a3o],by simp [a3o],by simp [a3o],by simp [a3o],by simp [a3o]⟩
 intro i n hn
 match i,hn with
 | 0,hn=>injection hn with hn; subst hn; exact ⟨rfl,.open (by omega)⟩
 | 1,hn=>injection hn with hn; subst hn; exact ⟨rfl,.open (by omega)⟩
 | 2,hn=>injection hn with hn; subst hn; exact ⟨rfl,.open (by omega)⟩
 | i+3,hn=>simp [a3o] at hn
theorem d0E:b4a=some a3o:=by
 have e : ∀ (ns:List j3) (i:Nat),i<3→ns.length≤3→a4v ns (i:Int)=some (.nxt (ns++[M7 (i:Int)],((i+1:Nat):Int))):=by
  intro ns i hi hn
  unfold a4v c1H
  rw [show decide ((i:Int)<3)=true by simp; omega,show decide ((i:Int)<0)=false by simp,show decide ((i:Int)≥3)=false by simp; omega]
  simp only [cond_true,cond_false,Option.bind_some]
  rw [u7 (by omega),D4 (by omega) (by omega)]
  rfl
 have h0:=M5 (body:=fun s:(List j3)×Int=>a4v s.1 s.2) (s:=([],((0:Nat):Int))) (e [] 0 (by omega) (by simp))
 have h1:=M5 (body:=fun s:(List j3)×Int=>a4v s.1 s.2) (s:=([M7 0],((1:Nat):Int))) (e [M7 0] 1 (by omega) (by simp))
 have h2:=M5 (body:=fun s:(List j3)×Int=>a4v s.1 s.2) (s:=([M7 0,M7 1],((2:Nat):Int))) (e [M7 0,M7 1] 2 (by omega) (by simp))
 have h3:=G5 (body:=fun s:(List j3)×Int=>a4v s.1 s.2) (s:=([M7 0,M7 1,M7 2],((3:Nat):Int))) (show a4v [M7 0,M7 1,M7 2] 3=_ from rfl)
 unfold b4a
 rw [show q7 (fun s:(List j3)×Int=>a4v s.1 s.2) ([],0)=_ from h0.trans (h1.trans (h2.trans h3))]
 rfl
theorem d0R {w:m3} (h:WI w) : ∀ {l:List n6},(∀ e∈l,a0H e)→WI (a8m w l)
 | [],_=>h
 | e::l,he=>d0R (w:=K1 w e) (b6P h (he e (by simp))).2 (l:=l) fun x hx=>he x (by simp [hx])
theorem d2S {w:m3} (h:Z3 w):b1P w=some w:=by
 obtain ⟨h1,h2,h3,h4⟩:=h
 have b1:=h1.1
 have b2:=h2.1
 have b3:=h3.1
 unfold b1P
 rw [u7 (b2Y h4),a7X (body:=fun s:(List j3)×Int=>b3X w s.1 s.2) w.Nodes (h1.fits (by decide)) (fun l=>l) (by
  intro k hk
  have hn:((w.Nodes.take k).length+1) * 392≤140737488355328:=Nat.le_trans (Nat.mul_le_mul_right 392 (show (w.Nodes.take k).length+1≤w.Nodes.length by rw [List.length_take]; omega)) (Nat.le_trans b1 (by decide))
  unfold b3X
  rw [x9 _ k hk,t9 hk]
  simp only [cond_true,Option.bind_some,b2q (h1.2 _ (List.getElem_mem hk)),u7 hn]) (by
  unfold b3X
  rw [B0]; rfl)]
 simp only [Option.bind_some,j9.go]
 unfold c45
 rw [a7X (body:=fun s:(List j7)×Int=>b20 w s.1 s.2) w.Net (h2.fits (by decide)) (fun l=>l) (by
  intro k hk
  have hn:((w.Net.take k).length+1) * 152≤140737488355328:=Nat.le_trans (Nat.mul_le_mul_right 152 (show (w.Net.take k).length+1≤w.Net.length by rw [List.length_take]; omega)) (Nat.le_trans b2 (by decide))
  unfold b20
  rw [x9 _ k hk,t9 hk]
  simp only [cond_true,Option.bind_some,b65 (h2.2 _ (List.getElem_mem hk)),u7 hn]) (by
  unfold b20
  rw [B0]; rfl)]
 simp only [Option.bind_some,j9.go]
 unfold c2u
 rw [a7X (body:=fun s:(List r9)×Int=>b3P w s.1 s.2) w.Asked (h3.fits (by decide)) (fun l=>l) (by
  intro k hk
  unfold b3P
  have hp:=(h3.2 _ (List.getElem_mem hk)).2
  have hn:((w.Asked.take k).length+1) * 40≤140737488355328:=Nat.le_trans (Nat.mul_le_mul_right 40 (show (w.Asked.take k).length+1≤w.Asked.length by rw [List.length_take]; omega)) (Nat.le_trans b3 (by decide))
  rw [x9 _ k hk,t9 hk]
  simp only [cond_true,Option.bind_some,u7 (b2Y hp),u7 hn,List.nil_append]) (by
  unfold b3P
  rw [B0]; rfl)]
 rfl
theorem c8u {l:List n6} (hl:s8 l) (he : ∀ e∈l,a0H e) : ∀ (d k:Nat) (w:m3),WI w→l.length - k=d→q7 (fun s:(List j3)×(List j7)×(List r9)×(List m7)×Int=>a5A l s.1 s.2.1 s.2.2.1 s.2.2.2.1 s.2.2.2.2) (w.Nodes,w.Net,w.Asked,w.Told,(k:Int))=some (.brk ((a8m w (l.drop k)).Nodes,(a8m w (l.drop k)).Net,(a8m w (l.drop k)).Asked,(a8m w (l.drop k)).Told))
 | 0,k,w,h,hd=>by
  rw [List.drop_eq_nil_of_le (by omega)]
  refine G5 ?_
  show a5A l w.Nodes w.Net w.Asked w.Told (k:Int)=_
  unfold a5A
  rw [show decide ((k:Int)<(l.length:Int))=false by simp; omega]
  rfl
 | d+1,k,w,h,hd=>by
  have hlt:k<l.length:=by omega
  obtain ⟨h1,h2⟩:=b6P h (he _ (List.getElem_mem hlt))
  have hb:a5A l w.Nodes w.Net w.Asked w.Told (k:Int)=some (.nxt ((K1 w l[k]).Nodes,(K1 w l[k]).Net,(K1 w l[k]).Asked,(K1 w l[k]).Told,((k+1:Nat):Int))):=by
   unfold a5A
   rw [x9 _ k hlt,t9 hlt,cond_true,Option.bind_some,show (⟨w.Nodes,w.Net,w.Asked,w.Told⟩:m3)=w from rfl,h1,Option.bind_some,J2 hl hlt]
  rw [M5 (body:=fun s:(List j3)×(List j7)×(List r9)×(List m7)×Int=>a5A l s.1 s.2.1 s.2.2.1 s.2.2.2.1 s.2.2.2.2) (s:=(w.Nodes,w.Net,w.Asked,w.Told,(k:Int))) hb,c8u hl he d (k+1) _ h2 (by omega),List.drop_eq_getElem_cons hlt]
  rfl
def noW:m3:=⟨[],[],[],[]⟩
theorem d76 {w:m3} (h:Z3 w) {l:List n6} (hl:s8 l) (he : ∀ e∈l,a0H e):b6R w l=some (bif E1 w&&decide (l.length≤400) then a8m w l else noW):=by
 unfold b6R
 rw [b33 h,Option.bind_some,d2S h,show decide ((l.length:Int)>400) = !decide (l.length≤400) from b4g l 400]
 cases hw:E1 w
 ·rfl
 ·cases decide (l.length≤400)
  ·rfl
  ·simp only [Bool.not_true,cond_false,Option.bind_some,Bool.and_self,cond_true]
   rw [show q7 (fun s:(List j3)×(List j7)×(List r9)×(List m7)×Int=>a5A l s.1 s.2.1 s.2.2.1 s.2.2.2.1 s.2.2.2.2) (w.Nodes,w.Net,w.Asked,w.Told,0)=_ from c8u hl he l.length 0 w (b91.1 hw) rfl]
   rfl
theorem a0U {k a:Int} {p:List m5} (h:p.length≤10):a0H ⟨k,a,p⟩:=⟨by show p.length * 32≤_; omega,fun _ _=>trivial⟩
theorem e8N (n:Int) : ∃ v,b7z 1 n=some v:=by
 unfold b7z
 cases decide ((1:Int)>n)<;>exact ⟨_,rfl⟩
theorem e3n {r:n4} {m:Nat} (h:Rd r m) (hm:m≤1000000) (w:m3) : ∃ e r',b6t r w=some (e,r',w)∧Rd r' (m+210)∧a0H e:=by
 obtain ⟨v,hv⟩:=e8N (w.Net.length:Int)
 obtain ⟨a,r1,e1,h1,_⟩:=E4 h (by omega) v
 obtain ⟨b,r2,e2,h2,_⟩:=E4 h1 (by omega) 24
 have ask : ∃ e r',((F3 r2 3).bind fun p=>(a3p p.2).bind fun q=>some (n6.mk 1 p.1 q.1,q.2,w))=some (e,r',w)∧Rd r' (m+210)∧a0H e:=by
  obtain ⟨c,r3,e3,h3,_⟩:=E4 h2 (by omega) 3
  obtain ⟨p,r4,e4,h4,hp⟩:=c2Y h3 (by omega)
  rw [e3,Option.bind_some,e4,Option.bind_some]
  exact ⟨_,_,rfl,h4.mono (by omega),a0U hp⟩
 obtain ⟨c3,r3,e3,h3,_⟩:=E4 h2 (by omega) 3
 obtain ⟨c4,r4,e4,h4,_⟩:=E4 h2 (by omega) 2
 obtain ⟨c5,r5,e5,h5,_⟩:=E4 h4 (by omega) 3
 obtain ⟨c6,r6,e6,h6,_⟩:=E4 h3 (by omega) 10
 obtain ⟨c7,r7,e7,h7,_⟩:=E4 h6 (by omega) 5
 obtain ⟨p,r8,e8,h8,hp⟩:=c2Y h3 (by omega)
 have z : ∀ (k x:Int) (r:n4) (j:Nat),Rd r j→j≤m+210 → ∃ e r',(some (n6.mk k x [],r,w):Option (n6×n4×m3))=some (e,r',w)∧Rd r' (m+210)∧a0H e:=fun k x r j hr hj=>⟨_,_,rfl,hr.mono hj,a0U (by simp)⟩
 unfold b6t
 rw [hv,Option.bind_some,e1,Option.bind_some,e2,Option.bind_some]
 simp only [e3,e4,e5,e6,e7,e8,Option.bind_some]
 cases b==0
 ·cases b==1
  ·cases b==2
   ·cases b==3
    ·cases b==4
     ·cases b==5
      ·cases b==6
       ·cases b==7
        ·cases b==8
         ·cases b==9
          ·cases b==10
           ·exact z _ _ _ _ h2 (by omega)
           ·cases c3==0
            ·exact z _ _ _ _ h3 (by omega)
            ·exact z _ _ _ _ h7 (by omega)
          ·exact z _ _ _ _ h2 (by omega)
         ·exact z _ _ _ _ h2 (by omega)
        ·cases c4==0
         ·exact z _ _ _ _ h4 (by omega)
         ·exact z _ _ _ _ h5 (by omega)
       ·exact z _ _ _ _ h3 (by omega)
      ·exact z _ _ _ _ h3 (by omega)
     ·exact z _ _ _ _ h3 (by omega)
    ·exact ⟨_,_,rfl,h8.mono (by omega),a0U hp⟩
   ·exact ⟨_,_,rfl,h8.mono (by omega),a0U hp⟩
  ·exact ⟨_,_,rfl,h8.mono (by omega),a0U hp⟩
 ·exact ⟨_,_,rfl,h8.mono (by omega),a0U hp⟩
structure Far (w:m3) (out:List n6) (b:Nat):Prop where
 w:WI w
 e : ∀ x∈out,a0H x
 l:out.length≤b
theorem d0U {out:List n6} {e:n6} (h : ∀ x∈out,a0H x) (he:a0H e) : ∀ x∈out++[e],a0H x:=by
 intro x hx
 rcases List.mem_append.1 hx with q | q
 ·exact h x q
 ·rw [List.mem_singleton.1 q]; exact he
theorem a3s {w:m3} {out:List n6} {b:Nat} (h:Far w out b) (hb:b≤1000) {e:n6} (he:a0H e):a2E w out e=some (K1 w e,out++[e])∧Far (K1 w e) (out++[e]) (b+1):=by
 obtain ⟨h1,h2⟩:=b6P h.w he
 have hl:=h.l
 unfold a2E
 rw [h1,Option.bind_some,u7 (by omega)]
 exact ⟨rfl,h2,d0U h.e he,by simp; omega⟩
theorem e6Q {r:n4} {m:Nat} (h:Rd r m) (hm:m≤1000) {w:m3} (hw:WI w) {n:Nat} (hn:n≤90) : ∃ l r',b41 r w (n:Int)=some (l,r')∧(∀ e∈l,a0H e)∧l.length≤90∧Rd r' 1000000:=by
 have hloop:=b1C (body:=fun s:n4×(List n6)×(List m7)×(List r9)×(List j7)×(List j3)×Int=>b7Z (n:Int) s.1 s.2.1 s.2.2.1 s.2.2.2.1 s.2.2.2.2.1 s.2.2.2.2.2.1 s.2.2.2.2.2.2)
  (fun k s=>k≤n∧s.2.2.2.2.2.2=((n - k:Nat):Int)∧WI ⟨s.2.2.2.2.2.1,s.2.2.2.2.1,s.2.2.2.1,s.2.2.1⟩∧(∀ e∈s.2.1,a0H e)∧s.2.1.length=n - k∧Rd s.1 (m+210 * (n - k)))
  (fun x => ∃ (r':n4) (l:List n6),x = .brk (r',l)∧(∀ e∈l,a0H e)∧l.length≤90∧Rd r' 1000000) (by
   rintro k ⟨r1,out,u9,asked,net,nodes,i⟩ ⟨hk,hi,hw,he,hl,hr⟩
   simp only at hi hw he hl hr
   unfold b7Z
   rw [hi]
   cases k with
   | zero =>
    rw [show decide (((n - 0:Nat):Int)<(n:Int))=false by simp]
    exact ⟨_,rfl,_,_,rfl,he,by simp only; omega,hr.mono (by omega)⟩
   | succ k =>
    rw [show decide (((n - (k+1):Nat):Int)<(n:Int))=true by simp; omega]
    obtain ⟨e,r2,ee,hr2,hee⟩:=e3n hr (by omega) ⟨nodes,net,asked,u9⟩
    obtain ⟨d1,d2⟩:=b6P hw hee
    simp only [cond_true,ee,Option.bind_some]
    rw [u7 trivial,u7 trivial,u7 trivial,u7 trivial,u7 (by omega),b33 hw.ok,b91.2 hw,d2S hw.ok]
    simp only [Option.bind_some,cond_true,d1,j9.go,c03]
    refine ⟨_,rfl,k,by omega,by omega,?_,d2,d0U he hee,by simp; omega,hr2.mono (by omega)⟩
    rw [D4 (by omega) (by omega)]
    simp only; omega) (k:=n) (s:=(r,[],w.Told,w.Asked,w.Net,w.Nodes,0)) ⟨Nat.le_refl _,by simp,hw,by simp,by simp,by simpa using h⟩
 obtain ⟨x,hx,r',l,rfl,h1,h2⟩:=hloop
 unfold b41
 rw [hx]
 exact ⟨l,r',rfl,h1,h2⟩
theorem e6t {w:m3} (h:0<w.Net.length):K1 w ⟨3,0,[]⟩=a58 w 0:=by
 unfold K1 b2g
 simp only [show ((3:Int)==2)=false from rfl,show ((3:Int)==3)=true from rfl,show ((3:Int)==4)=false from rfl,Bool.or_false,Bool.false_or,cond_true,cond_false,show decide ((0:Int)≤0)=true from rfl,Int.toNat_zero]
 rw [List.getElem?_eq_getElem h]
theorem d6z (w:m3) (a:Int) (p:List m5):(K1 w ⟨5,a,p⟩).Net.length≤w.Net.length+3:=by
 unfold K1
 simp only [show ((5:Int)==2)=false from rfl,show ((5:Int)==3)=false from rfl,show ((5:Int)==4)=false from rfl,show ((5:Int)==1)=false from rfl,show ((5:Int)==5)=true from rfl,Bool.or_false,cond_true,cond_false]
 cases !p7 a 0 2
 ·have:=c6A (a1h w a)
  simp only [cond_false,a4g,a3q,List.length_append,List.length_take]
  omega
 ·simp
theorem d51 {b:Nat} : ∀ (d:Nat) (w:m3) (out:List n6),w.Net.length=d→Far w out b→b+d≤1000 → ∃ w' out',q7 (fun s:(List n6)×(List j3)×(List j7)×(List r9)×List m7=>a69 s.1 s.2.1 s.2.2.1 s.2.2.2.1 s.2.2.2.2) (out,w.Nodes,w.Net,w.Asked,w.Told)=some (.brk (out',w'.Nodes,w'.Net,w'.Asked,w'.Told))∧w'.Net=[]∧Far w' out' (b+d)
 | 0,w,out,hd,h,hb=>by
  refine ⟨w,out,G5 ?_,List.eq_nil_of_length_eq_zero hd,h⟩
  show a69 out w.Nodes w.Net w.Asked w.Told=_
  unfold a69
  rw [show decide ((w.Net.length:Int)>0)=false from decide_eq_false (by omega)]
  rfl
 | d+1,w,out,hd,h,hb=>by
  obtain ⟨t1,t2⟩:=a3s h (by omega) (e:=⟨3,0,[]⟩) (a0U (by simp))
  have hs:a69 out w.Nodes w.Net w.Asked w.Told=some (.nxt (out++[⟨3,0,[]⟩],(K1 w ⟨3,0,[]⟩).Nodes,(K1 w ⟨3,0,[]⟩).Net,(K1 w ⟨3,0,[]⟩).Asked,(K1 w ⟨3,0,[]⟩).Told)):=by
   unfold a69
   rw [show decide ((w.Net.length:Int)>0)=true from decide_eq_true (by omega),cond_true,show (⟨w.Nodes,w.Net,w.Asked,w.Told⟩:m3)=w from rfl,t1]
   rfl
  rw [M5 (body:=fun s:(List n6)×(List j3)×(List j7)×(List r9)×List m7=>a69 s.1 s.2.1 s.2.2.1 s.2.2.2.1 s.2.2.2.2) (s:=(out,w.Nodes,w.Net,w.Asked,w.Told)) hs]
  obtain ⟨w',out',e1,e2,e3⟩:=d51 (b:=b+1) d (K1 w ⟨3,0,[]⟩) _ (by rw [e6t (by omega)]; simp [a58]; omega) t2 (by omega)
  exact ⟨w',out',e1,e2,⟨e3.w,e3.e,by have:=e3.l; omega⟩⟩
theorem c7J {p:Int×n4} {B:Nat} (hB:B≤900) : ∀ (i:Nat) (w:m3) (out:List n6) (b:Nat),Far w out b→b+w.Net.length+4 * i≤B→i≤100 → ∃ w' out',q7 (fun s:(List m7)×(List r9)×(List j7)×(List j3)×(List n6)×Int=>a9H p s.1 s.2.1 s.2.2.1 s.2.2.2.1 s.2.2.2.2.1 s.2.2.2.2.2) (w.Told,w.Asked,w.Net,w.Nodes,out,(i:Int))=some (.brk (out',w'.Nodes,w'.Net,w'.Asked,w'.Told))∧Far w' out' B
 | 0,w,out,b,h,hb,hi=>by
  refine ⟨w,out,G5 ?_,h.w,h.e,by have:=h.l; omega⟩
  rfl
 | i+1,w,out,b,h,hb,hi=>by
  obtain ⟨w1,out1,e1,e2,e3⟩:=d51 (b:=b) w.Net.length w out rfl h (by omega)
  obtain ⟨t1,t2⟩:=a3s e3 (by omega) (e:=⟨5,p.1,[]⟩) (a0U (by simp))
  have hs:a9H p w.Told w.Asked w.Net w.Nodes out ((i+1:Nat):Int)=some (.nxt ((K1 w1 ⟨5,p.1,[]⟩).Told,(K1 w1 ⟨5,p.1,[]⟩).Asked,(K1 w1 ⟨5,p.1,[]⟩).Net,(K1 w1 ⟨5,p.1,[]⟩).Nodes,out1++[⟨5,p.1,[]⟩],(i:Int))):=by
   unfold a9H
   rw [show decide (((i+1:Nat):Int)>0)=true from decide_eq_true (by omega),cond_true,e1]
   simp only [Option.bind_some,j9.go,b9Z]
   rw [show (⟨w1.Nodes,w1.Net,w1.Asked,w1.Told⟩:m3)=w1 from rfl,t1,Option.bind_some,D4 (by omega) (by omega),show ((i+1:Nat):Int) - 1=(i:Int) by omega]
  rw [M5 (body:=fun s:(List m7)×(List r9)×(List j7)×(List j3)×(List n6)×Int=>a9H p s.1 s.2.1 s.2.2.1 s.2.2.2.1 s.2.2.2.2.1 s.2.2.2.2.2) (s:=(w.Told,w.Asked,w.Net,w.Nodes,out,((i+1:Nat):Int))) hs]
  have hn:=d6z w1 p.1 []
  rw [e2] at hn
  simp only [List.length_nil,Nat.zero_add] at hn
  exact c7J hB i _ _ _ t2 (by omega) (by omega)
theorem e87 {r:n4} {m:Nat} (h:Rd r m) (hm:m≤1000) {w:m3} {out:List n6} (hw:Far w out 1) : ∃ w' out' r',b5B r w out=some (w',out',r')∧Far w' out' 130∧Rd r' (m+3):=by
 obtain ⟨a,r1,e1,h1,_⟩:=E4 h (by omega) 3
 obtain ⟨v,r2,e2,h2,hv⟩:=a7x h1 (by omega) [3,8,20] (by simp) (by simp)
 obtain ⟨i,hi,hi20⟩ : ∃ i:Nat,v=(i:Int)∧i≤20:=by
  simp at hv
  rcases hv with rfl | rfl | rfl
  ·exact ⟨3,rfl,by omega⟩
  ·exact ⟨8,rfl,by omega⟩
  ·exact ⟨20,rfl,by omega⟩
 have hml:=hw.w.ml
 obtain ⟨w',out',e3,e4⟩:=c7J (p:=(a,r1)) (B:=125) (by omega) i w out 1 hw (by omega) (by omega)
 have e4':Far w' out' 125:=e4
 unfold b5B
 rw [e1,Option.bind_some,e2,Option.bind_some,hi,e3]
 simp only [Option.bind_some,j9.go,c4I]
 cases decide ((w'.Net.length:Int)>0)
 ·simp only [cond_false,Option.bind_some,j9.go,b5h]
  obtain ⟨t1,t2⟩:=a3s e4' (by omega) (e:=⟨7,a,[]⟩) (a0U (by simp))
  rw [show (⟨w'.Nodes,w'.Net,w'.Asked,w'.Told⟩:m3)=w' from rfl,t1]
  exact ⟨_,_,_,rfl,⟨t2.w,t2.e,by have:=t2.l; simp only; omega⟩,h2.mono (by omega)⟩
 ·obtain ⟨c,r3,e5,h5,_⟩:=E4 h2 (by omega) (w'.Net.length:Int)
  obtain ⟨t1,t2⟩:=a3s e4' (by omega) (e:=⟨2,c,[]⟩) (a0U (by simp))
  obtain ⟨u1,u2⟩:=a3s t2 (by omega) (e:=⟨7,a,[]⟩) (a0U (by simp))
  simp only [cond_true,e5,Option.bind_some]
  rw [show (⟨w'.Nodes,w'.Net,w'.Asked,w'.Told⟩:m3)=w' from rfl,t1]
  simp only [Option.bind_some,j9.go,b5h]
  rw [show (⟨(K1 w' ⟨2,c,[]⟩).Nodes,(K1 w' ⟨2,c,[]⟩).Net,(K1 w' ⟨2,c,[]⟩).Asked,(K1 w' ⟨2,c,[]⟩).Told⟩:m3)=K1 w' ⟨2,c,[]⟩ from rfl,u1]
  exact ⟨_,_,_,rfl,⟨u2.w,u2.e,by have:=u2.l; simp only; omega⟩,h5.mono (by omega)⟩
theorem e4y {M:Nat} (hM:M≤100000) {r:n4} {w:m3} {out:List n6} (h:Far w out 290) (hr:Rd r (M+10 * out.length)) : ∃ w' out' r',q7 (fun s:n4×(List j3)×(List j7)×(List r9)×(List m7)×List n6=>b2D s.1 s.2.1 s.2.2.1 s.2.2.2.1 s.2.2.2.2.1 s.2.2.2.2.2) (r,w.Nodes,w.Net,w.Asked,w.Told,out)=some (.brk (r',w'.Nodes,w'.Net,w'.Asked,w'.Told,out'))∧Far w' out' (max out.length 201)∧Rd r' (M+10 * out'.length+2):=by
 have hloop:=b1C (body:=fun s:n4×(List j3)×(List j7)×(List r9)×(List m7)×List n6=>b2D s.1 s.2.1 s.2.2.1 s.2.2.2.1 s.2.2.2.2.1 s.2.2.2.2.2)
  (fun k s => ∃ w:m3,s.2=(w.Nodes,w.Net,w.Asked,w.Told,s.2.2.2.2.2)∧Far w s.2.2.2.2.2 (max out.length 201)∧k=300 - s.2.2.2.2.2.length∧Rd s.1 (M+10 * s.2.2.2.2.2.length))
  (fun x => ∃ (w':m3) (out':List n6) (r':n4),x = .brk (r',w'.Nodes,w'.Net,w'.Asked,w'.Told,out')∧Far w' out' (max out.length 201)∧Rd r' (M+10 * out'.length+2)) (by
   rintro k ⟨r1,s⟩ ⟨w1,hs,hf,hk,hr1⟩
   simp only at hs hf hk hr1
   obtain ⟨nodes,net,asked,u9,o⟩:=s
   simp only at hs hf hk hr1
   injection hs with e1 e2
   injection e2 with e2 e3
   injection e3 with e3 e4
   injection e4 with e4 e5
   subst e1; subst e2; subst e3; subst e4
   have hl:=hf.l
   have hol:=h.l
   unfold b2D
   cases decide ((w1.Net.length:Int)>0)
   ·exact ⟨_,rfl,w1,o,r1,rfl,hf,hr1.mono (by omega)⟩
   ·obtain ⟨a,r2,p1,p2,_⟩:=E4 hr1 (by omega) 9
    simp only [cond_true,p1,Option.bind_some]
    cases decide (a>0)
    ·exact ⟨_,rfl,w1,o,r2,rfl,hf,p2.mono (by omega)⟩
    ·simp only [cond_true]
     by_cases h200:o.length<200
     ·rw [show decide ((o.length:Int)<200)=true from decide_eq_true (by omega)]
      obtain ⟨b,r3,q1,q2,_⟩:=E4 p2 (by omega) 8
      have go : ∀ (w2:m3) (o2:List n6) (r4:n4) (j:Nat),Far w2 o2 (max out.length 201)→o2.length≤200→Rd r4 j→j≤M+10 * o2.length+4→o.length≤o2.length → ∃ st,b7c r4 w2.Nodes w2.Net w2.Asked w2.Told o2=some st∧match st with
        | .ret _=>False
        | .brk _=>False
        | .nxt t => ∃ k',k'<k ∧ ∃ w:m3,t.2=(w.Nodes,w.Net,w.Asked,w.Told,t.2.2.2.2.2)∧Far w t.2.2.2.2.2 (max out.length 201)∧k'=300 - t.2.2.2.2.2.length∧Rd t.1 (M+10 * t.2.2.2.2.2.length):=by
       intro w2 o2 r4 j hf2 ho2 hr4 hj hle
       obtain ⟨c,r5,x1,x2,_⟩:=E4 hr4 (by omega) (w2.Net.length:Int)
       obtain ⟨d,r6,y1,y2,_⟩:=a7x x2 (by omega) [0,0,c] (by simp) (by simp)
       obtain ⟨t1,t2⟩:=a3s (b:=200) ⟨hf2.w,hf2.e,ho2⟩ (by omega) (e:=⟨2,d,[]⟩) (a0U (by simp))
       unfold b7c
       rw [x1,Option.bind_some,y1,Option.bind_some,show (⟨w2.Nodes,w2.Net,w2.Asked,w2.Told⟩:m3)=w2 from rfl,t1]
       refine ⟨_,rfl,300 - (o2++[(⟨2,d,[]⟩:n6)]).length,by simp; omega,K1 w2 ⟨2,d,[]⟩,rfl,⟨t2.w,t2.e,by simp; omega⟩,rfl,y2.mono (by simp; omega)⟩
      simp only [cond_true,q1,Option.bind_some]
      cases b==0
      ·obtain ⟨st,g1,g2⟩:=go w1 o r3 _ hf (by omega) q2 (by omega) (Nat.le_refl _)
       refine ⟨st,g1,?_⟩
       cases st with
       | ret _=>exact g2.elim
       | brk _=>exact g2.elim
       | nxt t=>exact g2
      ·obtain ⟨c,r4,x1,x2,_⟩:=E4 q2 (by omega) (w1.Net.length:Int)
       obtain ⟨t1,t2⟩:=a3s (b:=199) ⟨hf.w,hf.e,by omega⟩ (by omega) (e:=⟨4,c,[]⟩) (a0U (by simp))
       simp only [cond_true,x1,Option.bind_some]
       rw [show (⟨w1.Nodes,w1.Net,w1.Asked,w1.Told⟩:m3)=w1 from rfl,t1]
       simp only [Option.bind_some,j9.go]
       have hl2:(o++[(⟨4,c,[]⟩:n6)]).length=o.length+1:=by simp
       obtain ⟨st,g1,g2⟩:=go (K1 w1 ⟨4,c,[]⟩) (o++[⟨4,c,[]⟩]) r4 _ ⟨t2.w,t2.e,by omega⟩ (by omega) x2 (by omega) (by omega)
       refine ⟨st,g1,?_⟩
       cases st with
       | ret _=>exact g2.elim
       | brk _=>exact g2.elim
       | nxt t=>exact g2
     ·rw [show decide ((o.length:Int)<200)=false from decide_eq_false (by omega)]
      exact ⟨_,rfl,w1,o,r2,rfl,hf,p2.mono (by omega)⟩) (k:=300 - out.length) (s:=(r,w.Nodes,w.Net,w.Asked,w.Told,out)) ⟨w,rfl,⟨h.w,h.e,by simp only; omega⟩,rfl,hr⟩
 obtain ⟨x,hx,w',out',r',rfl,h1,h2⟩:=hloop
 exact ⟨w',out',r',hx,h1,h2⟩
theorem d6l : ∀ (i:Nat) (r:n4) (w:m3) (out:List n6),i≤6→Far w out (201+3 * (6 - i))→Rd r (10000 - 1000 * i+10 * out.length) → ∃ r' out',q7 (fun s:n4×(List j3)×(List j7)×(List r9)×(List m7)×(List n6)×Int=>b0y s.1 s.2.1 s.2.2.1 s.2.2.2.1 s.2.2.2.2.1 s.2.2.2.2.2.1 s.2.2.2.2.2.2) (r,w.Nodes,w.Net,w.Asked,w.Told,out,(i:Int))=some (.brk (r',out'))∧(∀ e∈out',a0H e)∧out'.length≤300∧Rd r' 1000000
 | 0,r,w,out,hi,h,hr=>⟨r,out,G5 rfl,h.e,by have:=h.l; omega,hr.mono (by have:=h.l; omega)⟩
 | i+1,r,w,out,hi,h,hr=>by
  have hl:=h.l
  obtain ⟨a,r1,p1,p2,_⟩:=E4 hr (by omega) 3
  obtain ⟨pr,r2,q1,q2,q3⟩:=c2Y p2 (by omega)
  obtain ⟨t1,t2⟩:=a3s h (by omega) (e:=⟨1,a,pr⟩) (a0U q3)
  have hlen:(out++[(⟨1,a,pr⟩:n6)]).length=out.length+1:=by simp
  obtain ⟨w3,o3,r3,x1,x2,x3⟩:=e4y (M:=10000 - 1000 * (i+1)+201) (by omega) (w:=K1 w ⟨1,a,pr⟩) (out:=out++[⟨1,a,pr⟩]) (r:=r2) ⟨t2.w,t2.e,by omega⟩ (q2.mono (by omega))
  have x2l:=x2.l
  obtain ⟨b,r4,y1,y2,_⟩:=E4 x3 (by omega) 4
  have fin : ∀ (w4:m3) (o4:List n6) (r5:n4) (j:Nat),Far w4 o4 (201+3 * (6 - (i+1))+2)→Rd r5 j→j≤10000 - 1000 * (i+1)+300+10 * o4.length → ∃ w5 o5 r6,b4O ((i+1:Nat):Int) r5 w4.Nodes w4.Net w4.Asked w4.Told o4=some (.nxt (r6,w5.Nodes,w5.Net,w5.Asked,w5.Told,o5,(i:Int)))∧Far w5 o5 (201+3 * (6 - i))∧Rd r6 (10000 - 1000 * i+10 * o5.length):=by
   intro w4 o4 r5 j hf hr5 hj
   have hfl:=hf.l
   obtain ⟨c,r6,z1,z2,_⟩:=E4 hr5 (by omega) 3
   obtain ⟨u1,u2⟩:=a3s hf (by omega) (e:=⟨6,c,[]⟩) (a0U (by simp))
   refine ⟨K1 w4 ⟨6,c,[]⟩,o4++[⟨6,c,[]⟩],r6,?_,⟨u2.w,u2.e,by have:=u2.l; omega⟩,z2.mono (by simp; omega)⟩
   unfold b4O
   rw [z1,Option.bind_some,show (⟨w4.Nodes,w4.Net,w4.Asked,w4.Told⟩:m3)=w4 from rfl,u1,Option.bind_some,D4 (by omega) (by omega),show ((i+1:Nat):Int) - 1=(i:Int) by omega]
  have hstep : ∃ w5 o5 r6,b0y r w.Nodes w.Net w.Asked w.Told out ((i+1:Nat):Int)=some (.nxt (r6,w5.Nodes,w5.Net,w5.Asked,w5.Told,o5,(i:Int)))∧Far w5 o5 (201+3 * (6 - i))∧Rd r6 (10000 - 1000 * i+10 * o5.length):=by
   unfold b0y
   rw [show decide (((i+1:Nat):Int)>0)=true from decide_eq_true (by omega),cond_true,p1,Option.bind_some,q1,Option.bind_some,show (⟨w.Nodes,w.Net,w.Asked,w.Told⟩:m3)=w from rfl,t1,Option.bind_some,x1]
   simp only [Option.bind_some,j9.go]
   unfold c2Z
   rw [y1,Option.bind_some]
   cases b==0
   ·cases b==1
    ·simp only [cond_false,Option.bind_some,j9.go]
     exact fin w3 o3 r4 _ ⟨x2.w,x2.e,by omega⟩ y2 (by omega)
    ·obtain ⟨c,r5,z1,z2,_⟩:=E4 y2 (by omega) 3
     obtain ⟨u1,u2⟩:=a3s x2 (by omega) (e:=⟨5,c,[]⟩) (a0U (by simp))
     simp only [cond_false,cond_true,z1,Option.bind_some]
     rw [show (⟨w3.Nodes,w3.Net,w3.Asked,w3.Told⟩:m3)=w3 from rfl,u1]
     simp only [Option.bind_some,j9.go]
     exact fin (K1 w3 ⟨5,c,[]⟩) _ r5 _ ⟨u2.w,u2.e,by have:=u2.l; omega⟩ z2 (by simp; omega)
   ·obtain ⟨c,r5,z1,z2,_⟩:=E4 y2 (by omega) 3
    obtain ⟨u1,u2⟩:=a3s x2 (by omega) (e:=⟨7,c,[]⟩) (a0U (by simp))
    simp only [cond_true,z1,Option.bind_some]
    rw [show (⟨w3.Nodes,w3.Net,w3.Asked,w3.Told⟩:m3)=w3 from rfl,u1]
    simp only [Option.bind_some,j9.go]
    exact fin (K1 w3 ⟨7,c,[]⟩) _ r5 _ ⟨u2.w,u2.e,by have:=u2.l; omega⟩ z2 (by simp; omega)
  obtain ⟨w5,o5,r6,s1,s2,s3⟩:=hstep
  rw [M5 (body:=fun s:n4×(List j3)×(List j7)×(List r9)×(List m7)×(List n6)×Int=>b0y s.1 s.2.1 s.2.2.1 s.2.2.2.1 s.2.2.2.2.1 s.2.2.2.2.2.1 s.2.2.2.2.2.2) (s:=(r,w.Nodes,w.Net,w.Asked,w.Told,out,((i+1:Nat):Int))) s1]
  exact d6l i r6 w5 o5 (by omega) s2 s3
theorem e1z {r:n4} {m:Nat} (h:Rd r m) (hm:m≤100) : ∃ l r',b8I r=some (l,r')∧(∀ e∈l,a0H e)∧l.length≤300∧Rd r' 1000000:=by
 obtain ⟨a,r1,p1,p2,_⟩:=E4 h (by omega) 3
 obtain ⟨t1,t2⟩:=a3s (w:=a3o) (out:=[]) (b:=0) ⟨WI.open,by simp,by simp⟩ (by omega) (e:=⟨5,a,[]⟩) (a0U (by simp))
 obtain ⟨b,r2,q1,q2,_⟩:=E4 p2 (by omega) 3
 unfold b8I
 rw [d0E,Option.bind_some,p1,Option.bind_some,t1,Option.bind_some,q1,Option.bind_some]
 have tail : ∀ (w:m3) (out:List n6) (r3:n4) (j:Nat),Far w out 130→Rd r3 j→j≤200 → ∃ l r',b8Z r3 w.Nodes w.Net w.Asked w.Told out=some (l,r')∧(∀ e∈l,a0H e)∧l.length≤300∧Rd r' 1000000:=by
  intro w out r3 j hf hr3 hj
  obtain ⟨c,r4,x1,x2,x3,x4⟩:=E4 hr3 (by omega) 3
  obtain ⟨i,hi,hi6⟩ : ∃ i:Nat,n8 (3+c)=(i:Int)∧i≤6:=⟨(3+c).toNat,by rw [D4 (by omega) (by omega)]; omega,by omega⟩
  obtain ⟨r',out',e1,e2,e3⟩:=d6l i r4 w out hi6 ⟨hf.w,hf.e,by have:=hf.l; omega⟩ (x2.mono (by omega))
  unfold b8Z
  rw [x1,Option.bind_some,hi,e1]
  exact ⟨out',r',rfl,e2,e3⟩
 have tf:Far (K1 a3o ⟨5,a,[]⟩) ([]++[(⟨5,a,[]⟩:n6)]) 1:=t2
 cases decide (b>0)
 ·obtain ⟨c,r3,x1,x2,_⟩:=E4 q2 (by omega) 5
  simp only [cond_false,x1,Option.bind_some]
  cases c==0
  ·exact tail _ _ r3 _ ⟨tf.w,tf.e,by simp⟩ x2 (by omega)
  ·obtain ⟨w',o',r',y1,y2,y3⟩:=e87 x2 (by omega) tf
   simp only [cond_true]
   rw [y1]
   exact tail w' o' r' _ y2 y3 (by omega)
 ·obtain ⟨v,r3,x1,x2,x3⟩:=a7x q2 (by omega) [10,30,60,90] (by simp) (by simp)
  obtain ⟨n,hn,hn90⟩ : ∃ n:Nat,v=(n:Int)∧n≤90:=by
   simp at x3
   rcases x3 with rfl | rfl | rfl | rfl
   ·exact ⟨10,rfl,by omega⟩
   ·exact ⟨30,rfl,by omega⟩
   ·exact ⟨60,rfl,by omega⟩
   ·exact ⟨90,rfl,by omega⟩
  obtain ⟨l,r4,y1,y2,y3,y4⟩:=e6Q x2 (by omega) tf.w hn90
  simp only [cond_true,x1,Option.bind_some]
  rw [hn,y1,Option.bind_some,u7 (by simp; omega)]
  refine ⟨_,_,rfl,?_,by simp; omega,y4⟩
  intro e he
  rcases List.mem_append.1 he with q | q
  ·exact tf.e e q
  ·exact y2 e q
theorem a5i {k a b n:Int} (hk : -9000000≤k∧k≤9000000) (ha : -9000000≤a∧a≤9000000) (hb : -9000000≤b∧b≤9000000) (hn : -9000000≤n∧n≤9000000):a4c ⟨k,a,b,n⟩:=by
 unfold a4c L1
 simp only
 omega
theorem d9Q {r:n4} {m:Nat} (h:Rd r m) (hm:m≤100000000) : ∃ i r',a9T r=some (i,r')∧Rd r' (m+10)∧a4c i:=by
 obtain ⟨k,r1,a1,a2,a3⟩:=a7x h (by omega) [1,1,2,2,3,4,4,5,6,7] (by decide) (by decide)
 obtain ⟨p1,r2,b1,b2,b3,b4⟩:=E4 a2 (by omega) 3
 obtain ⟨p2,r3,c1,c2,c3,c4⟩:=E4 b2 (by omega) 3
 have hk:1≤k∧k≤7:=by simp at a3; omega
 unfold a9T
 simp only [a1,b1,c1,Option.bind_some]
 cases h3:k==3
 ·cases h6:k==6
  ·cases h7:k==7
   ·exact ⟨_,_,rfl,c2.mono (by omega),a5i (by omega) (by omega) (by omega) (by omega)⟩
   ·obtain ⟨p3,r4,d1,d2,d3,d4⟩:=E4 c2 (by omega) 3
    simp only [cond_true,cond_false,d1,Option.bind_some]
    cases decide (p3>0)
    ·exact ⟨_,_,rfl,d2.mono (by omega),a5i (by omega) (by omega) (by omega) (by omega)⟩
    ·obtain ⟨p4,r5,e1,e2,e3,e4⟩:=E4 d2 (by omega) 4
     obtain ⟨p5,r6,f1,f2,f3,f4⟩:=E4 e2 (by omega) 4
     simp only [cond_true,e1,f1,Option.bind_some]
     exact ⟨_,_,rfl,f2.mono (by omega),a5i (by omega) (by omega) (by omega) (by omega)⟩
  ·obtain ⟨p3,r4,d1,d2,d3,d4⟩:=E4 c2 (by omega) 3
   have hw:n8 (1+p3)=1+p3:=D4 (by omega) (by omega)
   simp only [cond_true,cond_false,d1,Option.bind_some,hw]
   exact ⟨_,_,rfl,d2.mono (by omega),a5i (by omega) (by omega) (by omega) (by omega)⟩
 ·obtain ⟨n1,r4,d1,d2,d3⟩:=a7x c2 (by omega) [0,1,5,(-2),100,1000000] (by decide) (by decide)
  have hn : -2≤n1∧n1≤1000000:=by simp at d3; omega
  simp only [cond_true,d1,Option.bind_some]
  exact ⟨_,_,rfl,d2.mono (by omega),a5i (by omega) (by omega) (by omega) (by omega)⟩
theorem e8C {r:n4} {m:Nat} (h:Rd r m) (hm:m≤50000000) : ∃ p r',a3p r=some (p,r')∧Rd r' (m+200)∧p.length≤10 ∧ ∀ i∈p,a4c i:=by
 obtain ⟨v,r1,a1,a2,a3,a4⟩:=E4 h (by omega) 3
 unfold a3p
 simp only [a1,Option.bind_some]
 cases v==0
 ·obtain ⟨k,r2,b1,b2,b3,b4⟩:=E4 a2 (by omega) 8
  simp only [cond_false,b1,Option.bind_some]
  obtain ⟨x,hx,hq⟩:=b1C (body:=fun s:n4×(List m5)×Int=>a9q s.1 s.2.1 s.2.2)
   (fun j s=>s.2.2=(j:Int)∧j≤8∧Rd s.1 (m+2+10 * (8 - j))∧s.2.1.length+j≤8 ∧ ∀ i∈s.2.1,a4c i)
   (fun x=>match x with
    | .ret _=>False
    | .brk b=>Rd b.1 (m+200)∧b.2.length≤10 ∧ ∀ i∈b.2,a4c i)
   (by
    rintro j ⟨r,out,i⟩ ⟨q1,q2,q3,q4,q5⟩
    simp only at q1 q3 q4 q5 ⊢
    subst q1
    unfold a9q
    cases j with
    | zero=>exact ⟨_,rfl,q3.mono (by omega),by simp only; omega,q5⟩
    | succ j =>
     obtain ⟨i,r',d1,d2,d3⟩:=d9Q q3 (by omega)
     have hpos:decide (((j+1:Nat):Int)>0)=true:=by simp
     have n1:(out.length+1) * 32≤140737488355328:=by omega
     rw [hpos,cond_true,d1,Option.bind_some,u7 n1,D4 (by omega) (by omega)]
     refine ⟨_,rfl,j,by omega,by simp only; omega,by omega,d2.mono (by omega),by simp; omega,fun y hy => ?_⟩
     rcases List.mem_append.1 hy with hy | hy
     ·exact q5 y hy
     ·rw [List.mem_singleton.1 hy]; exact d3) (k:=k.toNat) (s:=(r2,[],k)) ⟨by simp only; omega,by omega,b2.mono (by omega),by simp; omega,by simp⟩
  rw [hx,Option.bind_some]
  cases x with
  | ret r=>cases hq
  | brk b=>exact ⟨_,_,rfl,hq.1,hq.2.1,hq.2.2⟩
 ·obtain ⟨p1,r2,b1,b2,b3,b4⟩:=E4 a2 (by omega) 3
  obtain ⟨p2,r3,c1,c2,c3,c4⟩:=E4 b2 (by omega) 3
  obtain ⟨p3,r4,d1,d2,d3,d4⟩:=E4 c2 (by omega) 3
  have hw:n8 (1+p3)=1+p3:=D4 (by omega) (by omega)
  simp only [cond_true,b1,c1,d1,Option.bind_some,hw]
  refine ⟨_,_,rfl,d2.mono (by omega),by simp,fun y hy => ?_⟩
  simp only [List.mem_cons,List.not_mem_nil,or_false] at hy
  rcases hy with rfl | rfl | rfl | rfl
  ·exact a5i (by omega) (by omega) (by omega) (by omega)
  ·exact a5i (by omega) (by omega) (by omega) (by omega)
  ·exact a5i (by omega) (by omega) (by omega) (by omega)
  ·exact a5i (by omega) (by omega) (by omega) (by omega)
theorem e6M {l:List m5} (h:s8 l):b6g l l=some true:=by
 unfold b6g c2X
 rw [bne_self_eq_false,cond_false,U3 l h (fun _=>true) false ()]
 ·rw [show l.all (fun _=>true)=true from by simp]; rfl
 ·intro k hk
  unfold b4C
  rw [x9 l k hk,t9 hk]
  simp
 ·unfold b4C
  rw [B0]; rfl
theorem B9.set2 {α:Type} {sz:Nat} {ok:α→Prop} {l:List α} (h:B9 sz ok l) (i:Nat) {x:α} (hx:ok x):B9 sz ok (l.set i x) :=
 ⟨by rw [List.length_set]; exact h.1,fun y hy=>(List.mem_or_eq_of_mem_set hy).elim (h.2 y) fun e=>e▸hx⟩
theorem d69 {r:n4} {m:Nat} (h:Rd r m) (hm:m≤100) : ∃ w r',b3n r=some (w,r')∧Z3 w∧Rd r' 1001000:=by
 obtain ⟨s,r1,a1,a2,a3,a4⟩:=e1z h hm
 have hw:=d0R WI.open (l:=s) a2
 have hpl:=d76 WI.open.ok (l:=s) (by unfold s8; omega) a2
 rw [b91.2 WI.open,decide_eq_true (by omega)] at hpl
 simp only [Bool.and_true,cond_true] at hpl
 generalize a8m a3o s=w at hw hpl
 obtain ⟨c,r2,b1,b2,_⟩:=E4 a4 (by omega) 12
 have hok:=hw.ok
 have htl:=hw.tl
 unfold b3n c2m
 simp only [d0E,a1,b1,hpl,Option.bind_some]
 cases c==0
 case true =>
  simp only [cond_true]
  cases hp:decide ((w.Told.length:Int)>0)
  ·simp only [cond_false,Option.bind_some,j9.go]
   exact ⟨_,_,rfl,hok,b2.mono (by omega)⟩
  ·have hp':0<w.Told.length:=by have:=of_decide_eq_true hp; omega
   obtain ⟨i,r3,c1,c2,c3,c4⟩:=E4 b2 (by omega) (w.Told.length:Int)
   obtain ⟨v,r4,d1,d2,d3,d4⟩:=E4 c2 (by omega) 4
   obtain ⟨k,rfl,hk⟩ : ∃ k:Nat,i=(k:Int)∧k<w.Told.length:=⟨i.toNat,by omega,by omega⟩
   have ht:=hok.2.2.2.2 _ (List.getElem_mem hk)
   simp only [cond_true,c1,d1,Option.bind_some,t9 hk,j9.go,Int.toNat_natCast]
   exact ⟨_,_,rfl,⟨hok.1,hok.2.1,hok.2.2.1,hok.2.2.2.set2 _ (x:=⟨w.Told[k].Node,w.Told[k].a5,w.Told[k].Code,v⟩) ⟨ht.1,ht.2.1,ht.2.2.1,⟨by show -9223372036854775808≤v; omega,by show v≤9223372036854775807; omega⟩⟩⟩,d2.mono (by omega)⟩
 simp only [cond_false]
 cases c==1
 case true =>
  simp only [cond_true]
  cases hp:decide ((w.Asked.length:Int)>0)
  ·simp only [cond_false,Option.bind_some,j9.go]
   exact ⟨_,_,rfl,hok,b2.mono (by omega)⟩
  ·have hp':0<w.Asked.length:=by have:=of_decide_eq_true hp; omega
   obtain ⟨i,r3,c1,c2,c3,c4⟩:=E4 b2 (by omega) (w.Asked.length:Int)
   obtain ⟨p,r4,d1,d2,d3,d4⟩:=e8C c2 (by omega)
   obtain ⟨k,rfl,hk⟩ : ∃ k:Nat,i=(k:Int)∧k<w.Asked.length:=⟨i.toNat,by omega,by omega⟩
   have ht:=hok.2.2.1.2 _ (List.getElem_mem hk)
   simp only [cond_true,c1,d1,Option.bind_some,t9 hk,j9.go,Int.toNat_natCast]
   exact ⟨_,_,rfl,⟨hok.1,hok.2.1,hok.2.2.1.set2 _ (x:=⟨w.Asked[k].a5,p⟩) ⟨ht.1,⟨by show p.length * 32≤_; omega,d4⟩⟩,hok.2.2.2⟩,d2.mono (by omega)⟩
 simp only [cond_false]
 cases c==2
 case true =>
  simp only [cond_true]
  rw [u7 (by omega)]
  simp only [Option.bind_some,j9.go]
  refine ⟨_,_,rfl,⟨hok.1,hok.2.1,hok.2.2.1,⟨by rw [List.length_append]; omega,fun x hx => ?_⟩⟩,b2.mono (by omega)⟩
  rcases List.mem_append.1 hx with q | q<;>exact hok.2.2.2.2 x q
 simp only [cond_false,Option.bind_some,j9.go]
 exact ⟨_,_,rfl,hok,b2.mono (by omega)⟩
theorem e8G {J4:List Int} (h:B9 1 a8N J4):c3q J4=some true:=by
 unfold c3q
 cases decide ((J4.length:Int)>1048576)
 case true=>rfl
 obtain ⟨r,a1,a2⟩:=d66 h.2
 obtain ⟨w,r1,b1,hw,b3⟩:=d69 a2 (by omega)
 have hd:b7M J4=some w:=by unfold b7M; simp only [a1,b1,Option.bind_some]
 obtain ⟨p1,r2,c1,c2,c3,c4⟩:=E4 b3 (by omega) 4
 obtain ⟨p2,r3,d1,d2,d3,d4⟩:=E4 c2 (by omega) 4
 obtain ⟨q,hq⟩ : ∃ q,b68 J4=some (w,q):=⟨⟨n8 (p1 - 1),p2⟩,by unfold b68; simp only [a1,b1,c1,d1,Option.bind_some]⟩
 obtain ⟨t,t1,t2⟩:=e30 hw
 obtain ⟨o,o1,o2⟩ : ∃ v,b2O w=some v∧b2u w=some v:=⟨_,by rw [d6x hw,Bool.and_comm],e62 hw⟩
 simp only [cond_false,hd,hq,Option.bind_some,c8v hw,d3Y hw,beq_self_eq_true,Bool.not_true,e6M (d0S hw q),e77 hw,e43 hw,cond_true,t1,t2,o1,o2]
end Go.Proofs.YtjcbjgaapekopaaGreat
