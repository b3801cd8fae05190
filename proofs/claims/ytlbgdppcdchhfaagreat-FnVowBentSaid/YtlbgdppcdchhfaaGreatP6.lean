/- Abstract values and states of the program, functions of the program and what their calls come to, and what follows from it: part 6 of the text that the law leans on; long names are written short. -/
import Derived.Test.YtlbgdppcdchhfaaGreatP5
set_option linter.unusedVariables false
set_option linter.unusedSimpArgs false
set_option linter.unnecessarySimpa false
namespace Go.Proofs.YtlbgdppcdchhfaaGreat
open Go
theorem e8v {n:j4} (h:NI n) {m:l9} (hm:MI m):a8Y n (b1y n m):=by
 have hf:=hm.fr
 unfold b1y
 cases hc:n.d7 != 3||(m.a7 != n.a7||m.i5 != (n.a6.length:Int))
 ·simp only [Bool.or_eq_false_iff,bne_eq_false_iff_eq] at hc
  simp only [cond_false]
  have hl:Own n∧n.b5=[]∧B8 n.b9=true∧n.a0.length=3∧n.a0[n.Id.toNat]?=some true∧n.a6.length<40:=by
   rcases h.ld with q | q | q | q
   ·omega
   ·omega
   ·omega
   ·exact q.2
  have hn:NI { n with a0:=n.a0.set m.b5.toNat true }:=by
   refine ⟨h.id,h.pr,h.vl,h.vs,h.kl,h.ks,h.sq,h.ql,h.qs,.inr (.inr (.inr ⟨hc.1,⟨hl.1.b1,hl.1.b2,hl.1.mod,hl.1.pr,hl.1.bl,hl.1.bs⟩,hl.2.1,hl.2.2.1,by simp [hl.2.2.2.1],?_,hl.2.2.2.2.2⟩)),h.wt⟩
   show (n.a0.set m.b5.toNat true)[n.Id.toNat]?=some true
   by_cases q:m.b5.toNat=n.Id.toNat
   ·rw [q,List.getElem?_set_self (by have:=h.id; omega)]
   ·rw [List.getElem?_set_ne q]; exact hl.2.2.2.2.1
  cases two (n.a0.set m.b5.toNat true)
  ·exact ⟨hn,rfl,by simp,by simp⟩
  ·simp only [cond_true]
   have hr:=d2h hn hl.2.2.1 hl.2.2.2.2.2
   refine ⟨hr.ni,hr.id,fun x hx => ?_,hr.ts⟩
   rcases List.mem_append.1 hx with q | q
   ·exact a6Y h.id (.chosen (by omega) hl.2.2.1) (by simp only; omega) x q
   ·exact hr.ms x q
 ·exact .same h
theorem f0H {n:j4} (h:NI n) {m:l9} (hm:MI m) (hk:m.c9=5):a8Y n (b1I n m):=by
 have hkd:m.i5<40∧B8 m.g9=true:=by
  rcases hm.kd with q | q | q | q | q | q | q
  ·omega
  ·omega
  ·omega
  ·exact ⟨q.2.2.1,q.2.2.2.1⟩
  all_goals exact absurd q.1 (by omega)
 have hkl:=h.kl
 unfold b1I
 cases h1:decide (m.i5<(n.a6.length:Int))
 ·cases h2:decide (m.i5>(n.a6.length:Int))
  ·simp only [decide_eq_false_iff_not] at h1 h2
   exact d2h h hkd.2 (by omega)
  ·refine ⟨h,rfl,fun x hx => ?_,by simp⟩
   rw [List.mem_singleton.1 hx]
   exact b16 hm .need (by simp only; omega)
 ·exact .same h
theorem f2i {n:j4} (h:NI n) {m:l9} (hm:MI m) (hk:m.c9=7):a1a n (a8N n m):=by
 have hkd:B8 m.g9=true∧m.g9.i0=false:=by
  rcases hm.kd with q | q | q | q | q | q | q
  ·omega
  ·omega
  ·omega
  ·omega
  ·omega
  ·exact ⟨q.2.2.2.1,q.2.2.2.2.1⟩
  ·omega
 unfold a8N
 cases hc:n.d7==0||(decide (4≤n.b7.length)||a02 n.a6 m.g9.a5)
 ·simp only [cond_false]
  simp only [Bool.or_eq_false_iff,decide_eq_false_iff_not] at hc
  refine a1a.to (n:=n) (n':={ n with b7:=n.b7++[m.g9] }) rfl (b4Z (h.queue (by simp; omega) ?_))
  intro e he
  rcases List.mem_append.1 he with q | q
  ·exact h.qs e q
  ·rw [List.mem_singleton.1 q]; exact hkd
 ·exact .same h
theorem e5C {n:j4} (h:NI n) {m:l9} (hm:MI m) : ∀ x∈a8G n m,MI x:=by
 intro x hx
 unfold a8G at hx
 obtain ⟨l,hl,hx⟩:=List.mem_flatten.1 hx
 obtain ⟨j,hj,rfl⟩:=List.mem_map.1 hl
 have hkl:=h.kl
 unfold a5f at hx
 cases hg:n.a6[m.i5.toNat+j]? with
 | none=>rw [hg] at hx; cases hx
 | some e =>
  rw [hg] at hx
  have hlt:=(List.getElem?_eq_some_iff.1 hg).1
  rw [List.mem_singleton.1 hx]
  exact b16 hm (.chosen (by omega) (h.ks e (List.mem_of_getElem? hg))) (by simp only; omega)
theorem f3n {n:j4} (h:NI n) {m:l9} (hm:MI m):a8Y n (a5g n m):=by
 unfold a5g
 by_cases k1:m.c9=1
 ·rw [show (m.c9==1)=true by simpa using k1]; exact (e62 h hm k1).three
 rw [show (m.c9==1)=false by simpa using k1]
 by_cases k2:m.c9=2
 ·rw [show (m.c9==2)=true by simpa using k2]; exact (e6b h hm k2).three
 rw [show (m.c9==2)=false by simpa using k2]
 by_cases k3:m.c9=3
 ·rw [show (m.c9==3)=true by simpa using k3]; exact (e2v h hm k3).three
 rw [show (m.c9==3)=false by simpa using k3]
 by_cases k4:m.c9=4
 ·rw [show (m.c9==4)=true by simpa using k4]; exact e8v h hm
 rw [show (m.c9==4)=false by simpa using k4]
 by_cases k5:m.c9=5
 ·rw [show (m.c9==5)=true by simpa using k5]; exact f0H h hm k5
 rw [show (m.c9==5)=false by simpa using k5]
 by_cases k6:m.c9=6
 ·rw [show (m.c9==6)=true by simpa using k6]
  simp only [cond_true,cond_false]
  cases hp:a0A n.Acc m.a7 with
  | none=>exact ⟨h.yield _,c6c _ _,by simp,by simp⟩
  | some a=>exact ⟨(h.promise hp).yield _,c6c _ _,by simp,by simp⟩
 rw [show (m.c9==6)=false by simpa using k6]
 by_cases k7:m.c9=7
 ·rw [show (m.c9==7)=true by simpa using k7]; exact (f2i h hm k7).three
 rw [show (m.c9==7)=false by simpa using k7]
 cases m.c9==8
 ·exact .same h
 ·exact ⟨h,rfl,e5C h hm,by simp⟩
structure e6w (n x:j4):Prop where
 id:x.Id=n.Id
 known:x.a6=n.a6
 seq:x.Seq=n.Seq
 busy:x.i6=n.i6
 prog:x.g7=n.g7
 want:x.b8=n.b8
theorem c99 (n:j4):e6w n (a1T n).1:=by
 unfold a1T
 cases n.d7 != 2||decide (40≤n.a6.length)
 ·simp only [cond_false]
  obtain ⟨q,hq,_⟩:=c7p n
  cases hx:a4U n with
  | mk x o =>
  rw [hx] at hq
  have hq:x={ n with b7:=q }:=hq
  subst hq
  cases o with
  | none=>exact ⟨rfl,rfl,rfl,rfl,rfl,rfl⟩
  | some e =>
   simp only [b24]
   cases a0Z n.Acc n.a7 (n.a6.length:Int) e<;>exact ⟨rfl,rfl,rfl,rfl,rfl,rfl⟩
 ·exact ⟨rfl,rfl,rfl,rfl,rfl,rfl⟩
def a5E (n:j4):List m4:=(r9 n.a6).1.d8
theorem c87 {n:j4} (h:NI n):F8 (a5E n)=true:=by
 obtain ⟨a,b⟩:=a2V h.list
 have:=(a1X a b n.a6.length (Nat.le_refl _)).1.boxes
 rwa [List.take_length] at this
theorem e5m {n:j4} (h:NI n):c0E n=some (r9 n.a6).1:=by
 unfold c0E
 rw [b0k h.ok,Option.bind_some,a9E.2 h]
 simp only [Bool.not_true,cond_false]
 rw [d8U (okEntries.f h.ok.2.2.1) h.list]
 rfl
theorem e3V {l:List m4} {p:List m7} (h:(E9 l p).Code≠3):I8 p=true:=by
 unfold E9 at h
 cases hp:I8 p
 ·rw [hp,Bool.and_false] at h; exact absurd rfl h
 ·rfl
def a2G (n:j4) (prog:List m7):j4:={ n with Seq:=n.Seq+1,i6:=true,g7:=prog,b8:=⟨false,⟨n.Id,n.Seq+1⟩,E9 (a5E n) prog⟩ }
def a0T (n:j4) (prog:List m7):Bool := !(n.i6||(n.Seq==1000||(E9 (a5E n) prog).Code==3))
theorem c7C {n:j4} {prog:List m7}:a0T n prog=true↔n.i6=false∧n.Seq≠1000∧(E9 (a5E n) prog).Code≠3:=by
 unfold a0T
 simp
theorem c0Z {n:j4} (h:NI n) {prog:List m7} (hp:s9 prog) (hc:a0T n prog=true):B8 (a2G n prog).b8=true∧I8 prog=true:=by
 obtain ⟨h1,h2,h3⟩:=c7C.1 hc
 have hr:=(b9N (c87 h) hp).ok
 have hs:=h.sq
 have hid:=h.id
 refine ⟨?_,e3V h3⟩
 unfold B8 a2G
 simp only [cond_false,Bool.and_eq_true,W5,hr,true_and,bne_iff_ne,ne_eq]
 exact ⟨⟨hid,by omega⟩,h3⟩
theorem NI.asked {n:j4} (h:NI n) {prog:List m7} (hp:s9 prog) (hc:a0T n prog=true):NI (a2G n prog):=by
 obtain ⟨h1,h2,h3⟩:=c7C.1 hc
 obtain ⟨h4,h5⟩:=c0Z h hp hc
 have hs:=h.sq
 exact ⟨h.id,h.pr,h.vl,h.vs,h.kl,h.ks,by show 0≤n.Seq+1∧n.Seq+1≤1000; omega,h.ql,h.qs,h.ld,.inl ⟨rfl,h5,h4,rfl,rfl⟩⟩
theorem b2L (n:j4) (prog:List m7):a16 n prog=bif a0T n prog then (bif n.d7==2 then a1T (a2G n prog) else (a2G n prog,bif n.d7==0 then a0G n.Id ⟨7,0,0,0,0,(a2G n prog).b8,[]⟩ else [])) else (n,[]):=by
 unfold a16 a0T a2G a5E
 cases n.i6||(n.Seq==1000||(E9 (r9 n.a6).1.d8 prog).Code==3)<;>rfl
theorem f1H {n:j4} (h:NI n) {prog:List m7} (hp:C3 32 okT prog):b6E n prog=some ((a16 n prog).1,(a16 n prog).2,[]):=by
 have hf:s9 prog:=hp.fits (by decide)
 have hs:=h.sq
 unfold b6E
 rw [b0k h.ok,Option.bind_some,a9E.2 h,b3N h.ok,e5m h,b2L]
 simp only [Bool.not_true,cond_false,Option.bind_some]
 rw [show (r9 n.a6).1.d8=a5E n from rfl,c6j (a3T (c87 h)) hf,Option.bind_some]
 cases hb:n.i6
 ·cases hq:n.Seq==1000
  ·cases hc:(E9 (a5E n) prog).Code==3
   ·have hca:a0T n prog=true:=by unfold a0T; rw [hb,hq,hc]; rfl
    have hn:=h.asked hf hca
    rw [hca]
    simp only [cond_true,cond_false]
    rw [x5 (by have:=hp.1; simp; omega),E7 (by omega) (by omega)]
    cases h2:n.d7==2
    ·cases h0:n.d7==0
     ·rfl
     ·simp only [cond_false,cond_true]
      rw [a6K h.id (show a3K ⟨7,0,0,0,0,⟨false,⟨n.Id,n.Seq+1⟩,E9 (a5E n) prog⟩,[]⟩ from a9r (B6 (by omega)) a1P a1P (a4t (c0Z h hf hca).1) a0M)]
      rfl
    ·simp only [cond_true]
     rw [show (⟨n.Id,n.Acc,n.a6,n.Seq+1,n.d7,n.a7,n.b5,n.i4,n.b9,n.a0,true,[]++prog,⟨false,⟨n.Id,n.Seq+1⟩,E9 (a5E n) prog⟩,n.b7⟩:j4)=a2G n prog from rfl,b3d hn.ok hn.id,Option.bind_some]
   ·have hca:a0T n prog=false:=by unfold a0T; rw [hb,hq,hc]; rfl
    rw [hca]; rfl
  ·have hca:a0T n prog=false:=by unfold a0T; rw [hb,hq]; rfl
   rw [hca]; rfl
 ·have hca:a0T n prog=false:=by unfold a0T; rw [hb]; rfl
  rw [hca]; rfl
theorem f4s {n:j4} (h:NI n) {prog:List m7} (hp:s9 prog):a1a n (a16 n prog):=by
 rw [b2L]
 cases hc:a0T n prog
 ·exact .same h
 ·have hn:=h.asked hp hc
  simp only [cond_true]
  cases n.d7==2
  ·refine ⟨hn,rfl,fun x hx => ?_⟩
   simp only [cond_false] at hx
   cases h0:n.d7==0
   ·rw [h0] at hx; cases hx
   ·rw [h0] at hx
    exact a6Y h.id (.ask (c0Z h hp hc).1 rfl) (by simp) x hx
  ·exact a1a.to (n:=n) (n':=a2G n prog) rfl (b4Z hn)
theorem d0T {b who:Int} (hb:0≤b∧b≤3000) (hw:0≤who∧who≤2):a1Q b who = -1∨(b<a1Q b who∧a1Q b who≤b+3∧a1Q b who≤3000∧Int.tmod (a1Q b who) 3=who):=by
 unfold a1Q
 cases h1:decide (b+1≤3000)&&(Int.tmod (b+1) 3==who)
 ·cases h2:decide (b+2≤3000)&&(Int.tmod (b+2) 3==who)
  ·cases h3:decide (b+3≤3000)&&(Int.tmod (b+3) 3==who)
   ·exact .inl rfl
   ·simp only [Bool.and_eq_true,decide_eq_true_eq,beq_iff_eq] at h3
    exact .inr ⟨by simp only [cond_true,cond_false]; omega,by simp only [cond_true,cond_false]; omega,h3.1,h3.2⟩
  ·simp only [Bool.and_eq_true,decide_eq_true_eq,beq_iff_eq] at h2
   exact .inr ⟨by simp only [cond_true,cond_false]; omega,by simp only [cond_true,cond_false]; omega,h2.1,h2.2⟩
 ·simp only [Bool.and_eq_true,decide_eq_true_eq,beq_iff_eq] at h1
  exact .inr ⟨by simp only [cond_true,cond_false]; omega,by simp only [cond_true,cond_false]; omega,h1.1,h1.2⟩
theorem e9Y {n:j4} (h:NI n):b7e n=some (a6T n):=by
 unfold b7e a6T
 rw [b0k h.ok,Option.bind_some,a9E.2 h,b3N h.ok]
 simp only [Bool.not_true,cond_false,Option.bind_some]
 rw [e9D h.pr h.id,Option.bind_some]
 cases hd:decide (a1Q n.Acc.d9 n.Id<0)
 ·simp only [decide_eq_false_iff_not] at hd
  rcases d0T h.pr h.id with q | ⟨q1,q2,q3,q4⟩
  ·omega
  ·have hpr:=h.pr
   have hkl:=h.kl
   obtain ⟨y,hy⟩:=d4O h.id
   simp only [cond_false,b3S,Option.bind_some,c0P,c5x (a:=n.Acc) (show 1≤a1Q n.Acc.d9 n.Id by omega) q3 (by omega),hy,e99 h.ok.2.1.2]
   rw [x5 (by omega),x5 trivial,a6K h.id (a9r (B6 (by omega)) (B6 (by omega)) (B6 (by omega)) a2Y a0M)]
   rfl
 ·rfl
theorem e3Y {n:j4} (h:NI n):a1a n (a6T n):=by
 unfold a6T
 cases hd:decide (a1Q n.Acc.d9 n.Id<0)
 ·simp only [decide_eq_false_iff_not] at hd
  have hpr:=h.pr
  have hkl:=h.kl
  rcases d0T h.pr h.id with q | ⟨q1,q2,q3,q4⟩
  ·omega
  ·obtain ⟨m1,m2⟩:=c4f h.id
   refine ⟨⟨h.id,⟨by simp only [cond_false]; omega,q3⟩,h.vl,fun v hv=>⟨(h.vs v hv).1,Int.le_trans (h.vs v hv).2 (Int.le_of_lt q1)⟩,h.kl,h.ks,h.sq,h.ql,h.qs,.inr (.inl ⟨rfl,⟨by simp only [cond_false]; omega,q3,q4,Int.le_refl _,h.vl,fun v hv=>(h.vs v hv).1⟩,m1,m2,rfl,rfl⟩),h.wt⟩,rfl,?_⟩
   exact a6Y h.id (.one (.inl rfl) ⟨by omega,q3⟩) (by simp only; omega)
 ·exact .same h
theorem d4E {k b s:Int} (hk:0≤k∧k≤8) (hb:0≤b∧b≤3000) (hs:0≤s∧s≤40):a3K ⟨k,0,0,b,s,zE,[]⟩:=a9r (B6 (by omega)) (B6 (by omega)) (B6 (by omega)) a2Y a0M
theorem f3f {n:j4} (h:NI n):b95 n=some ((a6d n).1,(a6d n).2,[]):=by
 have hkl:=h.kl
 have hb:=h.ld.bal
 have l1:=a3I n.Id ⟨8,0,0,0,(n.a6.length:Int),zE,[]⟩
 unfold b95 a6d
 rw [b0k h.ok,Option.bind_some,a9E.2 h,b3N h.ok]
 simp only [Bool.not_true,cond_false,Option.bind_some]
 rw [a6K h.id (d4E (by omega) (by omega) (by omega)),Option.bind_some]
 cases h1:n.d7==1
 ·cases h2:n.d7==2
  ·cases h3:n.d7==3
   ·cases hbz:n.i6
    ·rfl
    ·simp only [cond_true,cond_false]
     have l2:=a3I n.Id ⟨7,0,0,0,0,n.b8,[]⟩
     have hw:G6 n.b8:=h.ok.2.2.2.2.2.2.2.2.2.2.2.1
     rw [a6K h.id (a9r (B6 (by omega)) a1P a1P hw a0M),Option.bind_some,x5 (by omega)]
     rfl
   ·simp only [cond_true,cond_false]
    have l2:=a3I n.Id ⟨3,0,0,n.a7,(n.a6.length:Int),n.b9,[]⟩
    rw [a6K h.id (a9r (B6 (by omega)) (B6 (by omega)) (B6 (by omega)) h.ld.from3.2.2 a0M),Option.bind_some,x5 (by omega)]
    rfl
  ·simp only [cond_true,cond_false]
   have l2:=a9a n
   rw [b3d h.ok h.id,Option.bind_some,x5 (by omega)]
   rfl
 ·simp only [cond_true,cond_false]
  have l2:=a3I n.Id ⟨1,0,0,n.a7,(n.a6.length:Int),zE,[]⟩
  rw [a6K h.id (d4E (by omega) (by omega) (by omega)),Option.bind_some,x5 (by omega)]
  rfl
theorem e6y {n:j4} (h:NI n):a1a n (a6d n):=by
 have hkl:=h.kl
 have hb:=h.ld.bal
 have a1 : ∀ x∈a0G n.Id ⟨8,0,0,0,(n.a6.length:Int),zE,[]⟩,MI x:=a6Y h.id .need (by simp only; omega)
 have two : ∀ {l:List l9},(∀ x∈l,MI x) → ∀ x∈a0G n.Id ⟨8,0,0,0,(n.a6.length:Int),zE,[]⟩++l,MI x:=by
  intro l hl x hx
  rcases List.mem_append.1 hx with q | q
  ·exact a1 x q
  ·exact hl x q
 unfold a6d
 by_cases h1:n.d7=1
 ·rw [show (n.d7==1)=true by simpa using h1]
  refine ⟨h,rfl,two (a6Y h.id (.one (.inl rfl) ?_) (by simp only; omega))⟩
  rcases h.ld with q | q | q | q
  ·omega
  ·exact ⟨q.2.1.b1,q.2.1.b2⟩
  all_goals exact absurd q.1 (by omega)
 rw [show (n.d7==1)=false by simpa using h1]
 by_cases h2:n.d7=2
 ·rw [show (n.d7==2)=true by simpa using h2]
  have:=b4Z h
  exact ⟨this.ni,this.id,two this.ms⟩
 rw [show (n.d7==2)=false by simpa using h2]
 by_cases h3:n.d7=3
 ·rw [show (n.d7==3)=true by simpa using h3]
  rcases h.ld with q | q | q | q
  ·omega
  ·omega
  ·omega
  ·exact ⟨h,rfl,two (a6Y h.id (.accept ⟨q.2.1.b1,q.2.1.b2⟩ (by omega) q.2.2.2.1) (by simp only; omega))⟩
 rw [show (n.d7==3)=false by simpa using h3]
 cases hbz:n.i6
 ·exact ⟨h,rfl,a1⟩
 ·rcases h.wt with q | q
  ·exact ⟨h,rfl,two (a6Y h.id (.ask q.2.2.1 q.2.2.2.1) (by simp))⟩
  ·rw [hbz] at q; cases q.1
theorem e2J {n:j4} (h:NI n):b91 n=some (b3v n):=by
 unfold b91
 rw [b0k h.ok,Option.bind_some,a9E.2 h,b3N h.ok]
 rfl
theorem NI.open {id:Int} (h:0≤id∧id≤2):NI (P4 id) :=
 ⟨h,⟨by simp [P4],by simp [P4]⟩,by simp [P4],by simp [P4],by simp [P4],by simp [P4],⟨by simp [P4],by simp [P4]⟩,by simp [P4],by simp [P4],.inl ⟨rfl,rfl,rfl,rfl,rfl,rfl⟩,.inr ⟨rfl,rfl,rfl⟩⟩
theorem NI.fall {n:j4} (h:NI n):NI (b3v n) :=
 ⟨h.id,h.pr,h.vl,h.vs,h.kl,h.ks,h.sq,by simp [b3v,P4],by simp [b3v,P4],.inl ⟨rfl,rfl,rfl,rfl,rfl,rfl⟩,.inr ⟨rfl,rfl,rfl⟩⟩
theorem d1y {l:List l9} (hl:s9 l) (ho : ∀ m∈l,a3K m) : ∀ (d k:Nat) (net:List l9),l.length - k=d→o9 (fun s:(List l9)×Int=>a4l l s.1 s.2) (net,(k:Int))=some (.brk (net++(l.drop k).take (40 - net.length)))
 | 0,k,net,hd=>by
  rw [List.drop_eq_nil_of_le (by omega)]
  refine (H3 (b:=net) ?_).trans (by simp)
  show a4l l net (k:Int)=_
  unfold a4l
  rw [show decide ((k:Int)<(l.length:Int))=false by simp; omega]
  rfl
 | d+1,k,net,hd=>by
  have hlt:k<l.length:=by omega
  by_cases hn:net.length<40
  ·have hb:a4l l net (k:Int)=some (.nxt (net++[l[k]],((k+1:Nat):Int))):=by
    unfold a4l
    rw [x6 _ k hlt,show decide ((net.length:Int)<40)=true by simp; omega,cond_true,cond_true,t8 hlt,Option.bind_some,b8D (ho _ (List.getElem_mem hlt)),Option.bind_some,x5 (by omega),J0 hl hlt]
   rw [O5 (body:=fun s:(List l9)×Int=>a4l l s.1 s.2) (s:=(net,(k:Int))) hb,d1y hl ho d (k+1) _ (by omega),List.drop_eq_getElem_cons hlt]
   rw [show 40 - net.length=(40 - (net++[l[k]]).length)+1 by simp; omega,List.take_succ_cons,List.append_assoc]
   rfl
  ·refine (H3 (b:=net) ?_).trans (by rw [show 40 - net.length=0 by omega]; simp)
   show a4l l net (k:Int)=_
   unfold a4l
   rw [x6 _ k hlt,show decide ((net.length:Int)<40)=false by simp; omega]
   rfl
theorem a69 (w:l7) {l:List l9} (hl:s9 l) (ho : ∀ m∈l,a3K m):a4J w l=some (a4y w l):=by
 unfold a4J
 rw [show o9 (fun s:(List l9)×Int=>a4l l s.1 s.2) (w.Net,0)=_ from d1y hl ho l.length 0 w.Net rfl]
 rfl
theorem d6I {l:List n4} (hl:s9 l) : ∀ (d k:Nat) (o:List n4),l.length - k=d→o9 (fun s:(List n4)×Int=>a4z l s.1 s.2) (o,(k:Int))=some (.brk (o++(l.drop k).take (60 - o.length)))
 | 0,k,o,hd=>by
  rw [List.drop_eq_nil_of_le (by omega)]
  refine (H3 (b:=o) ?_).trans (by simp)
  show a4z l o (k:Int)=_
  unfold a4z
  rw [show decide ((k:Int)<(l.length:Int))=false by simp; omega]
  rfl
 | d+1,k,o,hd=>by
  have hlt:k<l.length:=by omega
  by_cases hn:o.length<60
  ·have hb:a4z l o (k:Int)=some (.nxt (o++[l[k]],((k+1:Nat):Int))):=by
    unfold a4z
    rw [x6 _ k hlt,show decide ((o.length:Int)<60)=true by simp; omega,cond_true,cond_true,t8 hlt,Option.bind_some,x5 (by omega),J0 hl hlt]
   rw [O5 (body:=fun s:(List n4)×Int=>a4z l s.1 s.2) (s:=(o,(k:Int))) hb,d6I hl d (k+1) _ (by omega),List.drop_eq_getElem_cons hlt]
   rw [show 60 - o.length=(60 - (o++[l[k]]).length)+1 by simp; omega,List.take_succ_cons,List.append_assoc]
   rfl
  ·refine (H3 (b:=o) ?_).trans (by rw [show 60 - o.length=0 by omega]; simp)
   show a4z l o (k:Int)=_
   unfold a4z
   rw [x6 _ k hlt,show decide ((o.length:Int)<60)=false by simp; omega]
   rfl
theorem a9w (w:l7) {l:List n4} (hl:s9 l):a5i w l=some (a9Z w l):=by
 unfold a5i
 rw [show o9 (fun s:(List n4)×Int=>a4z l s.1 s.2) (w.Told,0)=_ from d6I hl l.length 0 w.Told rfl]
 rfl
theorem b1w (w:l7):a9Z w []=w:=by
 unfold a9Z; simp
theorem d1J (w:l7):a4y w []=w:=by
 unfold a4y; simp
theorem f4L {w:l7} {k:Nat} (hk:k<w.Net.length) (hl:w.Net.length≤40):b3l w (k:Int)=some (a7b w (k:Int)):=by
 unfold b3l a7b
 rw [x5 (by omega),x5 (by simp; omega),E7 (by omega) (by omega),x5 (by omega),x5 (by simp; omega)]
 simp only [List.nil_append,Nat.add_zero,List.drop_zero,Nat.sub_zero,Int.toNat_natCast,Nat.zero_add,show ((k:Int)+1).toNat=k+1 by omega]
 rw [List.take_of_length_le (l:=w.Net.drop (k+1)) (by simp)]
theorem c8h {w:l7} (h:WI w) {i:Nat} (hi:i<3) : ∃ n,w.Nodes[i]?=some n∧a1K w (i:Int)=n∧n.Id=(i:Int)∧NI n∧i<w.Nodes.length:=by
 have hl:=h.nl
 have hg:=List.getElem?_eq_getElem (l:=w.Nodes) (i:=i) (by omega)
 obtain ⟨h1,h2⟩:=h.ns i _ hg
 refine ⟨_,hg,?_,h1,h2,by omega⟩
 unfold a1K
 rw [Int.toNat_natCast,List.getD_eq_getElem?_getD,hg]; rfl
theorem WI.put {w:l7} (h:WI w) {i:Nat} {n:j4} (hid:n.Id=(i:Int)) (hn:NI n):WI (a30 w (i:Int) n):=by
 refine ⟨by simp [a30,h.nl],?_,h.ml,h.ms,h.al,h.aq,h.tl,h.ts⟩
 intro j m hm
 simp only [a30,Int.toNat_natCast] at hm
 by_cases q:i=j
 ·subst q
  have hlt:=(List.getElem?_eq_some_iff.1 hm).1
  rw [List.length_set] at hlt
  rw [List.getElem?_set_self hlt] at hm
  injection hm with hm; subst hm
  exact ⟨hid,hn⟩
 ·rw [List.getElem?_set_ne q] at hm
  exact h.ns j m hm
theorem WI.send {w:l7} (h:WI w) {l:List l9} (hl : ∀ m∈l,MI m):WI (a4y w l):=by
 have:=h.ml
 refine ⟨h.nl,h.ns,by simp only [a4y,List.length_append,List.length_take]; omega,?_,h.al,h.aq,h.tl,h.ts⟩
 intro m hm
 rcases List.mem_append.1 hm with q | q
 ·exact h.ms m q
 ·exact hl m (List.mem_of_mem_take q)
theorem WI.tell {w:l7} (h:WI w) {l:List n4} (hl : ∀ t∈l,a0t t=true):WI (a9Z w l):=by
 have:=h.tl
 refine ⟨h.nl,h.ns,h.ml,h.ms,h.al,h.aq,by simp only [a9Z,List.length_append,List.length_take]; omega,?_⟩
 intro m hm
 rcases List.mem_append.1 hm with q | q
 ·exact h.ts m q
 ·exact hl m (List.mem_of_mem_take q)
theorem WI.off {w:l7} (h:WI w) (i:Int):WI (a7b w i):=by
 have:=h.ml
 refine ⟨h.nl,h.ns,by simp only [a7b,List.length_append,List.length_take,List.length_drop]; omega,?_,h.al,h.aq,h.tl,h.ts⟩
 intro m hm
 rcases List.mem_append.1 hm with q | q
 ·exact h.ms m (List.mem_of_mem_take q)
 ·exact h.ms m (List.mem_of_mem_drop q)
theorem b14 {l:List l9} (h:l.length≤100):s9 l:=by unfold s9; omega
theorem f0m (n:j4) (p:List m7):(a16 n p).2.length≤3:=by
 rw [b2L]
 cases a0T n p
 ·simp
 ·cases n.d7==2
  ·cases n.d7==0
   ·simp
   ·exact a3I _ _
  ·exact a9a _
theorem MI.okl {l:List l9} (h : ∀ m∈l,MI m) : ∀ m∈l,a3K m:=fun m hm=>(h m hm).ok
theorem e1o (n:j4) (p:List m7):decide ((a16 n p).1.Seq>n.Seq)=a0T n p:=by
 rw [b2L]
 cases a0T n p
 ·simp
 ·simp only [cond_true]
  cases n.d7==2
  ·simp [a2G]; omega
  ·have:=(c99 (a2G n p)).seq
   simp only [cond_true,this]
   simp [a2G]; omega
theorem e25 {n:j4} {p:List m7} (h:a0T n p=true):(a16 n p).1.b8=(a2G n p).b8:=by
 rw [b2L,h]
 simp only [cond_true]
 cases n.d7==2
 ·rfl
 ·exact (c99 (a2G n p)).want
def e7f (w:l7) (a:t7):l7:={ w with Asked:=w.Asked++[a] }
theorem WI.addAsked {w:l7} (h:WI w) {a:t7} (hl:w.Asked.length<60) (ha:a10 a=true):WI (e7f w a):=by
 refine ⟨h.nl,h.ns,h.ml,h.ms,by simp only [e7f,List.length_append,List.length_singleton]; omega,?_,h.tl,h.ts⟩
 intro x hx
 rcases List.mem_append.1 hx with q | q
 ·exact h.aq x q
 ·rw [List.mem_singleton.1 q]; exact ha
theorem e6R {w:l7} (h:WI w) {i:Nat} (hi:i<3) {p:List m7} (hp:C3 32 okT p):b90 w (i:Int) p=some (b9s w (i:Int) p)∧WI (b9s w (i:Int) p):=by
 obtain ⟨n,hg,hn,hid,hni,hlt⟩:=c8h h hi
 have hf:s9 p:=hp.fits (by decide)
 have hr:=f4s hni hf
 have hln:=f0m n p
 have hms:=MI.okl hr.ms
 have hal:=h.al
 unfold b90 b9s
 rw [hn,show decide ((w.Asked.length:Int)≥60)=decide (60≤w.Asked.length) by simp; omega,b8I,hg,Option.bind_some,f1H hni hp,Option.bind_some]
 cases hd:decide (60≤w.Asked.length)
 ·simp only [cond_false]
  simp only [decide_eq_false_iff_not] at hd
  rw [e1o]
  cases hc:a0T n p
  ·simp only [cond_false]
   rw [a69 _ (b14 (by omega)) hms,Option.bind_some,a9w _ (by simp [s9]),b1w]
   exact ⟨rfl,(h.put (hr.id.trans hid) hr.ni).send hr.ms⟩
  ·simp only [cond_true]
   rw [x5 (by have:=hp.1; simp; omega),x5 (by omega),a69 _ (b14 (by omega)) hms,Option.bind_some,a9w _ (by simp [s9]),b1w]
   refine ⟨rfl,WI.send (w:=a30 (e7f w ⟨(a16 n p).1.b8.a5,p⟩) (i:Int) (a16 n p).1) (WI.put (w:=e7f w ⟨(a16 n p).1.b8.a5,p⟩) (h.addAsked (by omega) ?_) (hr.id.trans hid) hr.ni) hr.ms⟩
   rw [e25 hc]
   obtain ⟨w1,w2⟩:=c0Z hni hf hc
   obtain ⟨c1,c2,c3⟩:=c7C.1 hc
   unfold a10
   have:=hni.id
   have:=hni.sq
   simp only [Bool.and_eq_true,W5,w2,and_true]
   show (0≤n.Id∧n.Id≤2)∧1≤n.Seq+1∧n.Seq+1≤1000
   omega
 ·exact ⟨rfl,h⟩
theorem e6r {n:j4} (h:NI n) (m:l9):(a5g n m).2.1.length≤60∧(a5g n m).2.2.length≤1:=by
 have hkl:=h.kl
 have al : ∀ n:j4,(a2C n).2.length≤1:=fun n=>by
  rcases b98 n with q | ⟨k,_,_,q⟩<;>rw [q]<;>simp
 have ll : ∀ (n:j4) (e:l8),(a5z n e).2.1.length≤3∧(a5z n e).2.2.length≤1:=fun n e=>⟨a9a _,al _⟩
 have nl:(a8G n m).length≤40:=by
  unfold a8G
  have : ∀ d k:Nat,((List.range d).map fun j=>a5f n m (k+j)).flatten.length≤d:=by
   intro d k
   rw [List.length_flatten,List.map_map]
   have hs : ∀ (l:List Nat),((l.map (List.length ∘ fun j=>a5f n m (k+j))).sum)≤l.length:=by
    intro l
    induction l with
    | nil=>simp
    | cons x l ih =>
     simp only [List.map_cons,List.sum_cons,List.length_cons,Function.comp]
     have:(a5f n m (k+x)).length≤1:=by
      unfold a5f
      cases n.a6[k+x]?<;>simp
     omega
   have:=hs (List.range d)
   rwa [List.length_range] at this
  have:=this (n.a6.length - m.i5.toNat) m.i5.toNat
  omega
 unfold a5g
 cases m.c9==1
 ·cases m.c9==2
  ·cases m.c9==3
   ·cases m.c9==4
    ·cases m.c9==5
     ·cases m.c9==6
      ·cases m.c9==7
       ·cases m.c9==8
        ·exact ⟨by simp,by simp⟩
        ·exact ⟨by simp only [cond_true,cond_false]; omega,by simp⟩
       ·refine ⟨?_,by simp⟩
        simp only [cond_true,cond_false,a8N]
        cases n.d7==0||(decide (4≤n.b7.length)||a02 n.a6 m.g9.a5)
        ·exact Nat.le_trans (a9a _) (by omega)
        ·simp
      ·exact ⟨by simp,by simp⟩
     ·simp only [cond_true,cond_false,b1I]
      cases decide (m.i5<(n.a6.length:Int))
      ·cases decide (m.i5>(n.a6.length:Int))
       ·have:=ll n m.g9
        exact ⟨by simp only [cond_false]; omega,by simp only [cond_false]; omega⟩
       ·exact ⟨by simp,by simp⟩
      ·exact ⟨by simp,by simp⟩
    ·simp only [cond_true,cond_false,b1y]
     cases n.d7 != 3||(m.a7 != n.a7||m.i5 != (n.a6.length:Int))
     ·cases two (n.a0.set m.b5.toNat true)
      ·exact ⟨by simp,by simp⟩
      ·have h1:=ll { n with a0:=n.a0.set m.b5.toNat true } n.b9
       have h2:=a3I n.Id ⟨5,0,0,0,(n.a6.length:Int),n.b9,[]⟩
       exact ⟨by simp only [cond_true,cond_false,List.length_append]; omega,by simp only [cond_true,cond_false]; omega⟩
     ·exact ⟨by simp,by simp⟩
   ·refine ⟨?_,by simp⟩
    simp only [cond_true,cond_false,a8z]
    cases a0Z n.Acc m.a7 m.i5 m.g9<;>simp
  ·refine ⟨?_,by simp⟩
   simp only [cond_true,cond_false,a9e]
   cases n.d7 != 1||m.a7 != n.a7
   ·cases two (n.b5.set m.b5.toNat true)
    ·simp
    ·exact Nat.le_trans (a9a _) (by omega)
   ·simp
 ·refine ⟨?_,by simp⟩
  simp only [cond_true,a8B]
  cases a0A n.Acc m.a7<;>simp
theorem e0I {w:l7} (h:WI w) (e:n9):a9P w e=some (b3q w e)∧WI (b3q w e):=by
 have hml:=h.ml
 unfold a9P b3q
 by_cases h0:e.A<0
 ·rw [show decide (e.A<0)=true by simpa using h0,show decide (0≤e.A)=false by simp; omega]
  exact ⟨rfl,h⟩
 ·obtain ⟨k,hk⟩ : ∃ k:Nat,e.A=(k:Int):=⟨e.A.toNat,by omega⟩
  rw [hk,show decide ((k:Int)<0)=false by simp,show decide (0≤(k:Int))=true by simp,Int.toNat_natCast]
  simp only [cond_true,cond_false]
  by_cases hl:k<w.Net.length
  ·rw [show decide ((k:Int)≥(w.Net.length:Int))=false by simp; omega,t8 hl,List.getElem?_eq_getElem hl]
   have hm:=h.ms _ (List.getElem_mem hl)
   generalize w.Net[k]=m at hm
   simp only [cond_false,Option.bind_some,b8D hm.ok]
   cases e.c9==4
   ·simp only [cond_false]
    rw [f4L hl hml]
    cases e.c9==3
    ·simp only [cond_false,Option.bind_some]
     have ho:=h.off (k:Int)
     have ht:=hm.to
     obtain ⟨t,htt⟩ : ∃ t:Nat,m.To=(t:Int):=⟨m.To.toNat,by omega⟩
     obtain ⟨n,hg,hn,hid,hni,hlt⟩:=c8h ho (i:=t) (by omega)
     have hn':a1K w (t:Int)=n:=hn
     have hr:=f3n hni hm
     obtain ⟨l1,l2⟩:=e6r hni m
     rw [htt,b8I,hg,Option.bind_some,f1N hni hm,Option.bind_some,hn']
     rw [a69 _ (b14 (by omega)) (MI.okl hr.ms),Option.bind_some,a9w _ (by unfold s9; omega)]
     exact ⟨rfl,((ho.put (hr.id.trans hid) hr.ni).send hr.ms).tell hr.ts⟩
    ·exact ⟨rfl,h.off _⟩
   ·simp only [cond_true]
    have hs : ∀ x∈[m],MI x:=fun x hx=>by rw [List.mem_singleton.1 hx]; exact hm
    rw [a69 _ (b14 (by simp)) (MI.okl hs)]
    exact ⟨rfl,h.send hs⟩
  ·rw [show decide ((k:Int)≥(w.Net.length:Int))=true by simp; omega,List.getElem?_eq_none (by omega)]
   exact ⟨rfl,h⟩
def a00 (e:n9):Prop:=C3 32 okT e.g7
theorem f0Z (n:j4):(a6d n).2.length≤6:=by
 have l0:=a3I n.Id ⟨8,0,0,0,(n.a6.length:Int),zE,[]⟩
 unfold a6d
 cases n.d7==1
 ·cases n.d7==2
  ·cases n.d7==3
   ·cases n.i6
    ·simp only [cond_false]; omega
    ·have:=a3I n.Id ⟨7,0,0,0,0,n.b8,[]⟩
     simp only [cond_true,cond_false,List.length_append]; omega
   ·have:=a3I n.Id ⟨3,0,0,n.a7,(n.a6.length:Int),n.b9,[]⟩
    simp only [cond_true,cond_false,List.length_append]; omega
  ·have:=a9a n
   simp only [cond_true,cond_false,List.length_append]; omega
 ·have:=a3I n.Id ⟨1,0,0,n.a7,(n.a6.length:Int),zE,[]⟩
  simp only [cond_true,List.length_append]; omega
theorem d8R (n:j4):(a6T n).2.length≤3:=by
 unfold a6T
 cases decide (a1Q n.Acc.d9 n.Id<0)
 ·exact a3I _ _
 ·simp
theorem d1c {w:l7} {i:Nat} {n:j4} (h:w.Nodes[i]?=some n):a30 w (i:Int) n=w:=by
 unfold a30
 rw [Int.toNat_natCast]
 obtain ⟨hi,rfl⟩:=List.getElem?_eq_some_iff.1 h
 rw [List.set_getElem_self]
theorem b6a {w:l7} (h:WI w) {e:n9} (he:a00 e):a9O w e=some (M1 w e)∧WI (M1 w e):=by
 obtain ⟨n1,n2⟩:=e0I h e
 unfold a9O M1
 rw [n1]
 cases e.c9==2
 ·cases e.c9==3
  ·cases e.c9==4
   ·simp only [cond_false,Bool.or_self]
    by_cases h0:e.A<0
    ·rw [show decide (e.A<0)=true by simpa using h0,show p9 e.A 0 2=false by unfold p9; simp; omega]
     exact ⟨rfl,h⟩
    ·by_cases h3:e.A≥3
     ·rw [show decide (e.A<0)=false by simpa using h0,show decide (e.A≥3)=true by simpa using h3,show p9 e.A 0 2=false by unfold p9; simp; omega]
      exact ⟨rfl,h⟩
     ·obtain ⟨i,hi⟩ : ∃ i:Nat,e.A=(i:Int):=⟨e.A.toNat,by omega⟩
      rw [show decide (e.A<0)=false by simpa using h0,show decide (e.A≥3)=false by simpa using h3,show p9 e.A 0 2=true by unfold p9; simp; omega,hi]
      simp only [cond_false,Bool.not_true]
      obtain ⟨n,hg,hn,hid,hni,hlt⟩:=c8h h (i:=i) (by omega)
      rw [b8I,hg,Option.bind_some,hn]
      cases e.c9==1
      ·simp only [cond_false]
       cases e.c9==5
       ·simp only [cond_false]
        cases e.c9==6
        ·simp only [cond_false]
         cases e.c9==7
         ·simp only [cond_false]
          rw [a69 _ (by simp [s9]) (by simp),Option.bind_some,a9w _ (by simp [s9]),b1w,d1J]
          exact ⟨congrArg some (d1c hg),h⟩
         ·simp only [cond_true]
          rw [e2J hni,Option.bind_some,a69 _ (by simp [s9]) (by simp),Option.bind_some,a9w _ (by simp [s9]),b1w,d1J]
          exact ⟨rfl,h.put hid hni.fall⟩
        ·simp only [cond_true]
         have hr:=e6y hni
         have hl:=f0Z n
         rw [f3f hni,Option.bind_some,a69 _ (b14 (by omega)) (MI.okl hr.ms),Option.bind_some,a9w _ (by simp [s9]),b1w]
         exact ⟨rfl,(h.put (hr.id.trans hid) hr.ni).send hr.ms⟩
       ·simp only [cond_true]
        have hr:=e3Y hni
        have hl:=d8R n
        rw [e9Y hni,Option.bind_some,a69 _ (b14 (by omega)) (MI.okl hr.ms),Option.bind_some,a9w _ (by simp [s9]),b1w]
        exact ⟨rfl,(h.put (hr.id.trans hid) hr.ni).send hr.ms⟩
      ·simp only [cond_true]
       obtain ⟨a1,a2⟩:=e6R h (i:=i) (by omega) he
       unfold c2m
       rw [hi,show (⟨w.Nodes.set (i:Int).toNat n,w.Net,w.Asked,w.Told⟩:l7)=w from d1c hg,a1]
       exact ⟨rfl,a2⟩
   ·exact ⟨rfl,n2⟩
  ·exact ⟨rfl,n2⟩
 ·exact ⟨rfl,n2⟩
theorem WI.open:WI a4a:=by
 refine ⟨rfl,?_,by simp [a4a],by simp [a4a],by simp [a4a],by simp [a4a],by simp [a4a],by simp [a4a]⟩
 intro i n hn
 match i,hn with
 | 0,hn=>injection hn with hn; subst hn; exact ⟨rfl,.open (by omega)⟩
 | 1,hn=>injection hn with hn; subst hn; exact ⟨rfl,.open (by omega)⟩
 | 2,hn=>injection hn with hn; subst hn; exact ⟨rfl,.open (by omega)⟩
 | i+3,hn=>simp [a4a] at hn
theorem d4C:b3B=some a4a:=by
 have e : ∀ (ns:List j4) (i:Nat),i<3→ns.length≤3→a5j ns (i:Int)=some (.nxt (ns++[P4 (i:Int)],((i+1:Nat):Int))):=by
  intro ns i hi hn
  unfold a5j c5c
  rw [show decide ((i:Int)<3)=true by simp; omega,show decide ((i:Int)<0)=false by simp,show decide ((i:Int)≥3)=false by simp; omega]
  simp only [cond_true,cond_false,Option.bind_some]
  rw [x5 (by omega),E7 (by omega) (by omega)]
  rfl
 have h0:=O5 (body:=fun s:(List j4)×Int=>a5j s.1 s.2) (s:=([],((0:Nat):Int))) (e [] 0 (by omega) (by simp))
 have h1:=O5 (body:=fun s:(List j4)×Int=>a5j s.1 s.2) (s:=([P4 0],((1:Nat):Int))) (e [P4 0] 1 (by omega) (by simp))
 have h2:=O5 (body:=fun s:(List j4)×Int=>a5j s.1 s.2) (s:=([P4 0,P4 1],((2:Nat):Int))) (e [P4 0,P4 1] 2 (by omega) (by simp))
 have h3:=H3 (body:=fun s:(List j4)×Int=>a5j s.1 s.2) (s:=([P4 0,P4 1,P4 2],((3:Nat):Int))) (show a5j [P4 0,P4 1,P4 2] 3=_ from rfl)
 unfold b3B
 rw [show o9 (fun s:(List j4)×Int=>a5j s.1 s.2) ([],0)=_ from h0.trans (h1.trans (h2.trans h3))]
 rfl
theorem d7m {w:l7} (h:WI w) : ∀ {l:List n9},(∀ e∈l,a00 e)→WI (a8I w l)
 | [],_=>h
 | e::l,he=>d7m (w:=M1 w e) (b6a h (he e (by simp))).2 (l:=l) fun x hx=>he x (by simp [hx])
theorem c86 {w:l7} (h:K0 w):b4t w=some w:=by
 obtain ⟨h1,h2,h3,h4⟩:=h
 have b1:=h1.1
 have b2:=h2.1
 have b3:=h3.1
 unfold b4t
 rw [x5 (b20 h4),a8X (body:=fun s:(List j4)×Int=>b4U w s.1 s.2) w.Nodes (h1.fits (by decide)) (fun l=>l) (by
  intro k hk
  have hn:((w.Nodes.take k).length+1) * 392≤140737488355328:=Nat.le_trans (Nat.mul_le_mul_right 392 (show (w.Nodes.take k).length+1≤w.Nodes.length by rw [List.length_take]; omega)) (Nat.le_trans b1 (by decide))
  unfold b4U
  rw [x6 _ k hk,t8 hk]
  simp only [cond_true,Option.bind_some,b3N (h1.2 _ (List.getElem_mem hk)),x5 hn]) (by
  unfold b4U
  rw [A4]; rfl)]
 simp only [Option.bind_some,j8.go]
 unfold c4t
 rw [a8X (body:=fun s:(List l9)×Int=>b3M w s.1 s.2) w.Net (h2.fits (by decide)) (fun l=>l) (by
  intro k hk
  have hn:((w.Net.take k).length+1) * 152≤140737488355328:=Nat.le_trans (Nat.mul_le_mul_right 152 (show (w.Net.take k).length+1≤w.Net.length by rw [List.length_take]; omega)) (Nat.le_trans b2 (by decide))
  unfold b3M
  rw [x6 _ k hk,t8 hk]
  simp only [cond_true,Option.bind_some,b8D (h2.2 _ (List.getElem_mem hk)),x5 hn]) (by
  unfold b3M
  rw [A4]; rfl)]
 simp only [Option.bind_some,j8.go]
 unfold c2B
 rw [a8X (body:=fun s:(List t7)×Int=>b2z w s.1 s.2) w.Asked (h3.fits (by decide)) (fun l=>l) (by
  intro k hk
  unfold b2z
  have hp:=(h3.2 _ (List.getElem_mem hk)).2
  have hn:((w.Asked.take k).length+1) * 40≤140737488355328:=Nat.le_trans (Nat.mul_le_mul_right 40 (show (w.Asked.take k).length+1≤w.Asked.length by rw [List.length_take]; omega)) (Nat.le_trans b3 (by decide))
  rw [x6 _ k hk,t8 hk]
  simp only [cond_true,Option.bind_some,x5 (b20 hp),x5 hn,List.nil_append]) (by
  unfold b2z
  rw [A4]; rfl)]
 rfl
theorem d7d {l:List n9} (hl:s9 l) (he : ∀ e∈l,a00 e) : ∀ (d k:Nat) (w:l7),WI w→l.length - k=d→o9 (fun s:(List j4)×(List l9)×(List t7)×(List n4)×Int=>a5P l s.1 s.2.1 s.2.2.1 s.2.2.2.1 s.2.2.2.2) (w.Nodes,w.Net,w.Asked,w.Told,(k:Int))=some (.brk ((a8I w (l.drop k)).Nodes,(a8I w (l.drop k)).Net,(a8I w (l.drop k)).Asked,(a8I w (l.drop k)).Told))
 | 0,k,w,h,hd=>by
  rw [List.drop_eq_nil_of_le (by omega)]
  refine H3 ?_
  show a5P l w.Nodes w.Net w.Asked w.Told (k:Int)=_
  unfold a5P
  rw [show decide ((k:Int)<(l.length:Int))=false by simp; omega]
  rfl
 | d+1,k,w,h,hd=>by
  have hlt:k<l.length:=by omega
  obtain ⟨h1,h2⟩:=b6a h (he _ (List.getElem_mem hlt))
  have hb:a5P l w.Nodes w.Net w.Asked w.Told (k:Int)=some (.nxt ((M1 w l[k]).Nodes,(M1 w l[k]).Net,(M1 w l[k]).Asked,(M1 w l[k]).Told,((k+1:Nat):Int))):=by
   unfold a5P
   rw [x6 _ k hlt,t8 hlt,cond_true,Option.bind_some,show (⟨w.Nodes,w.Net,w.Asked,w.Told⟩:l7)=w from rfl,h1,Option.bind_some,J0 hl hlt]
  rw [O5 (body:=fun s:(List j4)×(List l9)×(List t7)×(List n4)×Int=>a5P l s.1 s.2.1 s.2.2.1 s.2.2.2.1 s.2.2.2.2) (s:=(w.Nodes,w.Net,w.Asked,w.Told,(k:Int))) hb,d7d hl he d (k+1) _ h2 (by omega),List.drop_eq_getElem_cons hlt]
  rfl
def noW:l7:=⟨[],[],[],[]⟩
theorem e26 {w:l7} (h:K0 w) {l:List n9} (hl:s9 l) (he : ∀ e∈l,a00 e):b5N w l=some (bif A3 w&&decide (l.length≤400) then a8I w l else noW):=by
 unfold b5N
 rw [a6g h,Option.bind_some,c86 h,show decide ((l.length:Int)>400) = !decide (l.length≤400) from b21 l 400]
 cases hw:A3 w
 ·rfl
 ·cases decide (l.length≤400)
  ·rfl
  ·simp only [Bool.not_true,cond_false,Option.bind_some,Bool.and_self,cond_true]
   rw [show o9 (fun s:(List j4)×(List l9)×(List t7)×(List n4)×Int=>a5P l s.1 s.2.1 s.2.2.1 s.2.2.2.1 s.2.2.2.2) (w.Nodes,w.Net,w.Asked,w.Told,0)=_ from d7d hl he l.length 0 w (b9u.1 hw) rfl]
   rfl
theorem a1c {k a:Int} {p:List m7} (h:p.length≤10):a00 ⟨k,a,p⟩:=⟨by show p.length * 32≤_; omega,fun _ _=>trivial⟩
theorem e5o (n:Int) : ∃ v,b7c 1 n=some v:=by
 unfold b7c
 cases decide ((1:Int)>n)<;>exact ⟨_,rfl⟩
theorem e4c {r:n8} {m:Nat} (h:Rd r m) (hm:m≤1000000) (w:l7) : ∃ e r',b7l r w=some (e,r',w)∧Rd r' (m+210)∧a00 e:=by
 obtain ⟨v,hv⟩:=e5o (w.Net.length:Int)
 obtain ⟨a,r1,e1,h1,_⟩:=L3 h (by omega) v
 obtain ⟨b,r2,e2,h2,_⟩:=L3 h1 (by omega) 24
 have ask : ∃ e r',((H5 r2 3).bind fun p=>(a5X p.2).bind fun q=>some (n9.mk 1 p.1 q.1,q.2,w))=some (e,r',w)∧Rd r' (m+210)∧a00 e:=by
  obtain ⟨c,r3,e3,h3,_⟩:=L3 h2 (by omega) 3
  obtain ⟨p,r4,e4,h4,hp⟩:=c6e h3 (by omega)
  rw [e3,Option.bind_some,e4,Option.bind_some]
  exact ⟨_,_,rfl,h4.mono (by omega),a1c hp⟩
 obtain ⟨c3,r3,e3,h3,_⟩:=L3 h2 (by omega) 3
 obtain ⟨c4,r4,e4,h4,_⟩:=L3 h2 (by omega) 2
 obtain ⟨c5,r5,e5,h5,_⟩:=L3 h4 (by omega) 3
 obtain ⟨c6,r6,e6,h6,_⟩:=L3 h3 (by omega) 10
 obtain ⟨c7,r7,e7,h7,_⟩:=L3 h6 (by omega) 5
 obtain ⟨p,r8,e8,h8,hp⟩:=c6e h3 (by omega)
 have z : ∀ (k x:Int) (r:n8) (j:Nat),Rd r j→j≤m+210 → ∃ e r',(some (n9.mk k x [],r,w):Option (n9×n8×l7))=some (e,r',w)∧Rd r' (m+210)∧a00 e:=fun k x r j hr hj=>⟨_,_,rfl,hr.mono hj,a1c (by simp)⟩
 unfold b7l
 rw [hv,Option.bind_some,e1,Option.bind_some,e2,Option.bind_some]
 simp only [e3,e4,e5,e6,e7,e8,Option.bind_some]
 cases b==0
 ·cases b==1
  ·cases b==2
   ·cases b==3
    ·cases b==4
     ·cases b==5
      ·cases b==6
       ·cases b==7
        ·cases b==8
         ·cases b==9
          ·cases b==10
           ·exact z _ _ _ _ h2 (by omega)
           ·cases c3==0
            ·exact z _ _ _ _ h3 (by omega)
            ·exact z _ _ _ _ h7 (by omega)
          ·exact z _ _ _ _ h2 (by omega)
         ·exact z _ _ _ _ h2 (by omega)
        ·cases c4==0
         ·exact z _ _ _ _ h4 (by omega)
         ·exact z _ _ _ _ h5 (by omega)
       ·exact z _ _ _ _ h3 (by omega)
      ·exact z _ _ _ _ h3 (by omega)
     ·exact z _ _ _ _ h3 (by omega)
    ·exact ⟨_,_,rfl,h8.mono (by omega),a1c hp⟩
   ·exact ⟨_,_,rfl,h8.mono (by omega),a1c hp⟩
  ·exact ⟨_,_,rfl,h8.mono (by omega),a1c hp⟩
 ·exact ⟨_,_,rfl,h8.mono (by omega),a1c hp⟩
structure Far (w:l7) (out:List n9) (b:Nat):Prop where
 w:WI w
 e : ∀ x∈out,a00 x
 l:out.length≤b
theorem d8M {out:List n9} {e:n9} (h : ∀ x∈out,a00 x) (he:a00 e) : ∀ x∈out++[e],a00 x:=by
 intro x hx
 rcases List.mem_append.1 hx with q | q
 ·exact h x q
 ·rw [List.mem_singleton.1 q]; exact he
theorem a4e {w:l7} {out:List n9} {b:Nat} (h:Far w out b) (hb:b≤1000) {e:n9} (he:a00 e):a20 w out e=some (M1 w e,out++[e])∧Far (M1 w e) (out++[e]) (b+1):=by
 obtain ⟨h1,h2⟩:=b6a h.w he
 have hl:=h.l
 unfold a20
 rw [h1,Option.bind_some,x5 (by omega)]
 exact ⟨rfl,h2,d8M h.e he,by simp; omega⟩
theorem e7x {r:n8} {m:Nat} (h:Rd r m) (hm:m≤1000) {w:l7} (hw:WI w) {n:Nat} (hn:n≤90) : ∃ l r',b6f r w (n:Int)=some (l,r')∧(∀ e∈l,a00 e)∧l.length≤90∧Rd r' 1000000:=by
 have hloop:=b6Y (body:=fun s:n8×(List n9)×(List n4)×(List t7)×(List l9)×(List j4)×Int=>b7M (n:Int) s.1 s.2.1 s.2.2.1 s.2.2.2.1 s.2.2.2.2.1 s.2.2.2.2.2.1 s.2.2.2.2.2.2)
  (fun k s=>k≤n∧s.2.2.2.2.2.2=((n - k:Nat):Int)∧WI ⟨s.2.2.2.2.2.1,s.2.2.2.2.1,s.2.2.2.1,s.2.2.1⟩∧(∀ e∈s.2.1,a00 e)∧s.2.1.length=n - k∧Rd s.1 (m+210 * (n - k)))
  (fun x => ∃ (r':n8) (l:List n9),x = .brk (r',l)∧(∀ e∈l,a00 e)∧l.length≤90∧Rd r' 1000000) (by
   rintro k ⟨r1,out,z7,asked,net,nodes,i⟩ ⟨hk,hi,hw,he,hl,hr⟩
   simp only at hi hw he hl hr
   unfold b7M
   rw [hi]
   cases k with
   | zero =>
    rw [show decide (((n - 0:Nat):Int)<(n:Int))=false by simp]
    exact ⟨_,rfl,_,_,rfl,he,by simp only; omega,hr.mono (by omega)⟩
   | succ k =>
    rw [show decide (((n - (k+1):Nat):Int)<(n:Int))=true by simp; omega]
    obtain ⟨e,r2,ee,hr2,hee⟩:=e4c hr (by omega) ⟨nodes,net,asked,z7⟩
    obtain ⟨d1,d2⟩:=b6a hw hee
    simp only [cond_true,ee,Option.bind_some]
    rw [x5 trivial,x5 trivial,x5 trivial,x5 trivial,x5 (by omega),a6g hw.ok,b9u.2 hw,c86 hw.ok]
    simp only [Option.bind_some,cond_true,d1,j8.go,c1R]
    refine ⟨_,rfl,k,by omega,by omega,?_,d2,d8M he hee,by simp; omega,hr2.mono (by omega)⟩
    rw [E7 (by omega) (by omega)]
    simp only; omega) (k:=n) (s:=(r,[],w.Told,w.Asked,w.Net,w.Nodes,0)) ⟨Nat.le_refl _,by simp,hw,by simp,by simp,by simpa using h⟩
 obtain ⟨x,hx,r',l,rfl,h1,h2⟩:=hloop
 unfold b6f
 rw [hx]
 exact ⟨l,r',rfl,h1,h2⟩
theorem e2U {w:l7} (h:0<w.Net.length):M1 w ⟨3,0,[]⟩=a7b w 0:=by
 unfold M1 b3q
 simp only [show ((3:Int)==2)=false from rfl,show ((3:Int)==3)=true from rfl,show ((3:Int)==4)=false from rfl,Bool.or_false,Bool.false_or,cond_true,cond_false,show decide ((0:Int)≤0)=true from rfl,Int.toNat_zero]
 rw [List.getElem?_eq_getElem h]
theorem e1f (w:l7) (a:Int) (p:List m7):(M1 w ⟨5,a,p⟩).Net.length≤w.Net.length+3:=by
 unfold M1
 simp only [show ((5:Int)==2)=false from rfl,show ((5:Int)==3)=false from rfl,show ((5:Int)==4)=false from rfl,show ((5:Int)==1)=false from rfl,show ((5:Int)==5)=true from rfl,Bool.or_false,cond_true,cond_false]
 cases !p9 a 0 2
 ·have:=d8R (a1K w a)
  simp only [cond_false,a4y,a30,List.length_append,List.length_take]
  omega
 ·simp
theorem d5X {b:Nat} : ∀ (d:Nat) (w:l7) (out:List n9),w.Net.length=d→Far w out b→b+d≤1000 → ∃ w' out',o9 (fun s:(List n9)×(List j4)×(List l9)×(List t7)×List n4=>a7Z s.1 s.2.1 s.2.2.1 s.2.2.2.1 s.2.2.2.2) (out,w.Nodes,w.Net,w.Asked,w.Told)=some (.brk (out',w'.Nodes,w'.Net,w'.Asked,w'.Told))∧w'.Net=[]∧Far w' out' (b+d)
 | 0,w,out,hd,h,hb=>by
  refine ⟨w,out,H3 ?_,List.eq_nil_of_length_eq_zero hd,h⟩
  show a7Z out w.Nodes w.Net w.Asked w.Told=_
  unfold a7Z
  rw [show decide ((w.Net.length:Int)>0)=false from decide_eq_false (by omega)]
  rfl
 | d+1,w,out,hd,h,hb=>by
  obtain ⟨t1,t2⟩:=a4e h (by omega) (e:=⟨3,0,[]⟩) (a1c (by simp))
  have hs:a7Z out w.Nodes w.Net w.Asked w.Told=some (.nxt (out++[⟨3,0,[]⟩],(M1 w ⟨3,0,[]⟩).Nodes,(M1 w ⟨3,0,[]⟩).Net,(M1 w ⟨3,0,[]⟩).Asked,(M1 w ⟨3,0,[]⟩).Told)):=by
   unfold a7Z
   rw [show decide ((w.Net.length:Int)>0)=true from decide_eq_true (by omega),cond_true,show (⟨w.Nodes,w.Net,w.Asked,w.Told⟩:l7)=w from rfl,t1]
   rfl
  rw [O5 (body:=fun s:(List n9)×(List j4)×(List l9)×(List t7)×List n4=>a7Z s.1 s.2.1 s.2.2.1 s.2.2.2.1 s.2.2.2.2) (s:=(out,w.Nodes,w.Net,w.Asked,w.Told)) hs]
  obtain ⟨w',out',e1,e2,e3⟩:=d5X (b:=b+1) d (M1 w ⟨3,0,[]⟩) _ (by rw [e2U (by omega)]; simp [a7b]; omega) t2 (by omega)
  exact ⟨w',out',e1,e2,⟨e3.w,e3.e,by have:=e3.l; omega⟩⟩
theorem c9x {p:Int×n8} {B:Nat} (hB:B≤900) : ∀ (i:Nat) (w:l7) (out:List n9) (b:Nat),Far w out b→b+w.Net.length+4 * i≤B→i≤100 → ∃ w' out',o9 (fun s:(List n4)×(List t7)×(List l9)×(List j4)×(List n9)×Int=>b2c p s.1 s.2.1 s.2.2.1 s.2.2.2.1 s.2.2.2.2.1 s.2.2.2.2.2) (w.Told,w.Asked,w.Net,w.Nodes,out,(i:Int))=some (.brk (out',w'.Nodes,w'.Net,w'.Asked,w'.Told))∧Far w' out' B
 | 0,w,out,b,h,hb,hi=>by
  refine ⟨w,out,H3 ?_,h.w,h.e,by have:=h.l; omega⟩
  rfl
 | i+1,w,out,b,h,hb,hi=>by
  obtain ⟨w1,out1,e1,e2,e3⟩:=d5X (b:=b) w.Net.length w out rfl h (by omega)
  obtain ⟨t1,t2⟩:=a4e e3 (by omega) (e:=⟨5,p.1,[]⟩) (a1c (by simp))
  have hs:b2c p w.Told w.Asked w.Net w.Nodes out ((i+1:Nat):Int)=some (.nxt ((M1 w1 ⟨5,p.1,[]⟩).Told,(M1 w1 ⟨5,p.1,[]⟩).Asked,(M1 w1 ⟨5,p.1,[]⟩).Net,(M1 w1 ⟨5,p.1,[]⟩).Nodes,out1++[⟨5,p.1,[]⟩],(i:Int))):=by
   unfold b2c
   rw [show decide (((i+1:Nat):Int)>0)=true from decide_eq_true (by omega),cond_true,e1]
   simp only [Option.bind_some,j8.go,c2R]
   rw [show (⟨w1.Nodes,w1.Net,w1.Asked,w1.Told⟩:l7)=w1 from rfl,t1,Option.bind_some,E7 (by omega) (by omega),show ((i+1:Nat):Int) - 1=(i:Int) by omega]
  rw [O5 (body:=fun s:(List n4)×(List t7)×(List l9)×(List j4)×(List n9)×Int=>b2c p s.1 s.2.1 s.2.2.1 s.2.2.2.1 s.2.2.2.2.1 s.2.2.2.2.2) (s:=(w.Told,w.Asked,w.Net,w.Nodes,out,((i+1:Nat):Int))) hs]
  have hn:=e1f w1 p.1 []
  rw [e2] at hn
  simp only [List.length_nil,Nat.zero_add] at hn
  exact c9x hB i _ _ _ t2 (by omega) (by omega)
theorem e3d {r:n8} {m:Nat} (h:Rd r m) (hm:m≤1000) {w:l7} {out:List n9} (hw:Far w out 1) : ∃ w' out' r',b5R r w out=some (w',out',r')∧Far w' out' 130∧Rd r' (m+3):=by
 obtain ⟨a,r1,e1,h1,_⟩:=L3 h (by omega) 3
 obtain ⟨v,r2,e2,h2,hv⟩:=b4y h1 (by omega) [3,8,20] (by simp) (by simp)
 obtain ⟨i,hi,hi20⟩ : ∃ i:Nat,v=(i:Int)∧i≤20:=by
  simp at hv
  rcases hv with rfl | rfl | rfl
  ·exact ⟨3,rfl,by omega⟩
  ·exact ⟨8,rfl,by omega⟩
  ·exact ⟨20,rfl,by omega⟩
 have hml:=hw.w.ml
 obtain ⟨w',out',e3,e4⟩:=c9x (p:=(a,r1)) (B:=125) (by omega) i w out 1 hw (by omega) (by omega)
 have e4':Far w' out' 125:=e4
 unfold b5R
 rw [e1,Option.bind_some,e2,Option.bind_some,hi,e3]
 simp only [Option.bind_some,j8.go,c6u]
 cases decide ((w'.Net.length:Int)>0)
 ·simp only [cond_false,Option.bind_some,j8.go,b5V]
  obtain ⟨t1,t2⟩:=a4e e4' (by omega) (e:=⟨7,a,[]⟩) (a1c (by simp))
  rw [show (⟨w'.Nodes,w'.Net,w'.Asked,w'.Told⟩:l7)=w' from rfl,t1]
  exact ⟨_,_,_,rfl,⟨t2.w,t2.e,by have:=t2.l; simp only; omega⟩,h2.mono (by omega)⟩
 ·obtain ⟨c,r3,e5,h5,_⟩:=L3 h2 (by omega) (w'.Net.length:Int)
  obtain ⟨t1,t2⟩:=a4e e4' (by omega) (e:=⟨2,c,[]⟩) (a1c (by simp))
  obtain ⟨u1,u2⟩:=a4e t2 (by omega) (e:=⟨7,a,[]⟩) (a1c (by simp))
  simp only [cond_true,e5,Option.bind_some]
  rw [show (⟨w'.Nodes,w'.Net,w'.Asked,w'.Told⟩:l7)=w' from rfl,t1]
  simp only [Option.bind_some,j8.go,b5V]
  rw [show (⟨(M1 w' ⟨2,c,[]⟩).Nodes,(M1 w' ⟨2,c,[]⟩).Net,(M1 w' ⟨2,c,[]⟩).Asked,(M1 w' ⟨2,c,[]⟩).Told⟩:l7)=M1 w' ⟨2,c,[]⟩ from rfl,u1]
  exact ⟨_,_,_,rfl,⟨u2.w,u2.e,by have:=u2.l; simp only; omega⟩,h5.mono (by omega)⟩
theorem e3j {M:Nat} (hM:M≤100000) {r:n8} {w:l7} {out:List n9} (h:Far w out 290) (hr:Rd r (M+10 * out.length)) : ∃ w' out' r',o9 (fun s:n8×(List j4)×(List l9)×(List t7)×(List n4)×List n9=>b2S s.1 s.2.1 s.2.2.1 s.2.2.2.1 s.2.2.2.2.1 s.2.2.2.2.2) (r,w.Nodes,w.Net,w.Asked,w.Told,out)=some (.brk (r',w'.Nodes,w'.Net,w'.Asked,w'.Told,out'))∧Far w' out' (max out.length 201)∧Rd r' (M+10 * out'.length+2):=by
 have hloop:=b6Y (body:=fun s:n8×(List j4)×(List l9)×(List t7)×(List n4)×List n9=>b2S s.1 s.2.1 s.2.2.1 s.2.2.2.1 s.2.2.2.2.1 s.2.2.2.2.2)
  (fun k s => ∃ w:l7,s.2=(w.Nodes,w.Net,w.Asked,w.Told,s.2.2.2.2.2)∧Far w s.2.2.2.2.2 (max out.length 201)∧k=300 - s.2.2.2.2.2.length∧Rd s.1 (M+10 * s.2.2.2.2.2.length))
  (fun x => ∃ (w':l7) (out':List n9) (r':n8),x = .brk (r',w'.Nodes,w'.Net,w'.Asked,w'.Told,out')∧Far w' out' (max out.length 201)∧Rd r' (M+10 * out'.length+2)) (by
   rintro k ⟨r1,s⟩ ⟨w1,hs,hf,hk,hr1⟩
   simp only at hs hf hk hr1
   obtain ⟨nodes,net,asked,z7,o⟩:=s
   simp only at hs hf hk hr1
   injection hs with e1 e2
   injection e2 with e2 e3
   injection e3 with e3 e4
   injection e4 with e4 e5
   subst e1; subst e2; subst e3; subst e4
   have hl:=hf.l
   have hol:=h.l
   unfold b2S
   cases decide ((w1.Net.length:Int)>0)
   ·exact ⟨_,rfl,w1,o,r1,rfl,hf,hr1.mono (by omega)⟩
   ·obtain ⟨a,r2,p1,p2,_⟩:=L3 hr1 (by omega) 9
    simp only [cond_true,p1,Option.bind_some]
    cases decide (a>0)
    ·exact ⟨_,rfl,w1,o,r2,rfl,hf,p2.mono (by omega)⟩
    ·simp only [cond_true]
     by_cases h200:o.length<200
     ·rw [show decide ((o.length:Int)<200)=true from decide_eq_true (by omega)]
      obtain ⟨b,r3,q1,q2,_⟩:=L3 p2 (by omega) 8
      have go : ∀ (w2:l7) (o2:List n9) (r4:n8) (j:Nat),Far w2 o2 (max out.length 201)→o2.length≤200→Rd r4 j→j≤M+10 * o2.length+4→o.length≤o2.length → ∃ st,b7b r4 w2.Nodes w2.Net w2.Asked w2.Told o2=some st∧match st with
        | .ret _=>False
        | .brk _=>False
        | .nxt t => ∃ k',k'<k ∧ ∃ w:l7,t.2=(w.Nodes,w.Net,w.Asked,w.Told,t.2.2.2.2.2)∧Far w t.2.2.2.2.2 (max out.length 201)∧k'=300 - t.2.2.2.2.2.length∧Rd t.1 (M+10 * t.2.2.2.2.2.length):=by
       intro w2 o2 r4 j hf2 ho2 hr4 hj hle
       obtain ⟨c,r5,x1,x2,_⟩:=L3 hr4 (by omega) (w2.Net.length:Int)
       obtain ⟨d,r6,y1,y2,_⟩:=b4y x2 (by omega) [0,0,c] (by simp) (by simp)
       obtain ⟨t1,t2⟩:=a4e (b:=200) ⟨hf2.w,hf2.e,ho2⟩ (by omega) (e:=⟨2,d,[]⟩) (a1c (by simp))
       unfold b7b
       rw [x1,Option.bind_some,y1,Option.bind_some,show (⟨w2.Nodes,w2.Net,w2.Asked,w2.Told⟩:l7)=w2 from rfl,t1]
       refine ⟨_,rfl,300 - (o2++[(⟨2,d,[]⟩:n9)]).length,by simp; omega,M1 w2 ⟨2,d,[]⟩,rfl,⟨t2.w,t2.e,by simp; omega⟩,rfl,y2.mono (by simp; omega)⟩
      simp only [cond_true,q1,Option.bind_some]
      cases b==0
      ·obtain ⟨st,g1,g2⟩:=go w1 o r3 _ hf (by omega) q2 (by omega) (Nat.le_refl _)
       refine ⟨st,g1,?_⟩
       cases st with
       | ret _=>exact g2.elim
       | brk _=>exact g2.elim
       | nxt t=>exact g2
      ·obtain ⟨c,r4,x1,x2,_⟩:=L3 q2 (by omega) (w1.Net.length:Int)
       obtain ⟨t1,t2⟩:=a4e (b:=199) ⟨hf.w,hf.e,by omega⟩ (by omega) (e:=⟨4,c,[]⟩) (a1c (by simp))
       simp only [cond_true,x1,Option.bind_some]
       rw [show (⟨w1.Nodes,w1.Net,w1.Asked,w1.Told⟩:l7)=w1 from rfl,t1]
       simp only [Option.bind_some,j8.go]
       have hl2:(o++[(⟨4,c,[]⟩:n9)]).length=o.length+1:=by simp
       obtain ⟨st,g1,g2⟩:=go (M1 w1 ⟨4,c,[]⟩) (o++[⟨4,c,[]⟩]) r4 _ ⟨t2.w,t2.e,by omega⟩ (by omega) x2 (by omega) (by omega)
       refine ⟨st,g1,?_⟩
       cases st with
       | ret _=>exact g2.elim
       | brk _=>exact g2.elim
       | nxt t=>exact g2
     ·rw [show decide ((o.length:Int)<200)=false from decide_eq_false (by omega)]
      exact ⟨_,rfl,w1,o,r2,rfl,hf,p2.mono (by omega)⟩) (k:=300 - out.length) (s:=(r,w.Nodes,w.Net,w.Asked,w.Told,out)) ⟨w,rfl,⟨h.w,h.e,by simp only; omega⟩,rfl,hr⟩
 obtain ⟨x,hx,w',out',r',rfl,h1,h2⟩:=hloop
 exact ⟨w',out',r',hx,h1,h2⟩
theorem c9d : ∀ (i:Nat) (r:n8) (w:l7) (out:List n9),i≤6→Far w out (201+3 * (6 - i))→Rd r (10000 - 1000 * i+10 * out.length) → ∃ r' out',o9 (fun s:n8×(List j4)×(List l9)×(List t7)×(List n4)×(List n9)×Int=>b1V s.1 s.2.1 s.2.2.1 s.2.2.2.1 s.2.2.2.2.1 s.2.2.2.2.2.1 s.2.2.2.2.2.2) (r,w.Nodes,w.Net,w.Asked,w.Told,out,(i:Int))=some (.brk (r',out'))∧(∀ e∈out',a00 e)∧out'.length≤300∧Rd r' 1000000
 | 0,r,w,out,hi,h,hr=>⟨r,out,H3 rfl,h.e,by have:=h.l; omega,hr.mono (by have:=h.l; omega)⟩
 | i+1,r,w,out,hi,h,hr=>by
  have hl:=h.l
  obtain ⟨a,r1,p1,p2,_⟩:=L3 hr (by omega) 3
  obtain ⟨pr,r2,q1,q2,q3⟩:=c6e p2 (by omega)
  obtain ⟨t1,t2⟩:=a4e h (by omega) (e:=⟨1,a,pr⟩) (a1c q3)
  have hlen:(out++[(⟨1,a,pr⟩:n9)]).length=out.length+1:=by simp
  obtain ⟨w3,o3,r3,x1,x2,x3⟩:=e3j (M:=10000 - 1000 * (i+1)+201) (by omega) (w:=M1 w ⟨1,a,pr⟩) (out:=out++[⟨1,a,pr⟩]) (r:=r2) ⟨t2.w,t2.e,by omega⟩ (q2.mono (by omega))
  have x2l:=x2.l
  obtain ⟨b,r4,y1,y2,_⟩:=L3 x3 (by omega) 4
  have fin : ∀ (w4:l7) (o4:List n9) (r5:n8) (j:Nat),Far w4 o4 (201+3 * (6 - (i+1))+2)→Rd r5 j→j≤10000 - 1000 * (i+1)+300+10 * o4.length → ∃ w5 o5 r6,b71 ((i+1:Nat):Int) r5 w4.Nodes w4.Net w4.Asked w4.Told o4=some (.nxt (r6,w5.Nodes,w5.Net,w5.Asked,w5.Told,o5,(i:Int)))∧Far w5 o5 (201+3 * (6 - i))∧Rd r6 (10000 - 1000 * i+10 * o5.length):=by
   intro w4 o4 r5 j hf hr5 hj
   have hfl:=hf.l
   obtain ⟨c,r6,z1,z2,_⟩:=L3 hr5 (by omega) 3
   obtain ⟨u1,u2⟩:=a4e hf (by omega) (e:=⟨6,c,[]⟩) (a1c (by simp))
   refine ⟨M1 w4 ⟨6,c,[]⟩,o4++[⟨6,c,[]⟩],r6,?_,⟨u2.w,u2.e,by have:=u2.l; omega⟩,z2.mono (by simp; omega)⟩
   unfold b71
   rw [z1,Option.bind_some,show (⟨w4.Nodes,w4.Net,w4.Asked,w4.Told⟩:l7)=w4 from rfl,u1,Option.bind_some,E7 (by omega) (by omega),show ((i+1:Nat):Int) - 1=(i:Int) by omega]
  have hstep : ∃ w5 o5 r6,b1V r w.Nodes w.Net w.Asked w.Told out ((i+1:Nat):Int)=some (.nxt (r6,w5.Nodes,w5.Net,w5.Asked,w5.Told,o5,(i:Int)))∧Far w5 o5 (201+3 * (6 - i))∧Rd r6 (10000 - 1000 * i+10 * o5.length):=by
   unfold b1V
   rw [show decide (((i+1:Nat):Int)>0)=true from decide_eq_true (by omega),cond_true,p1,Option.bind_some,q1,Option.bind_some,show (⟨w.Nodes,w.Net,w.Asked,w.Told⟩:l7)=w from rfl,t1,Option.bind_some,x1]
   simp only [Option.bind_some,j8.go]
   unfold c3m
   rw [y1,Option.bind_some]
   cases b==0
   ·cases b==1
    ·simp only [cond_false,Option.bind_some,j8.go]
     exact fin w3 o3 r4 _ ⟨x2.w,x2.e,by omega⟩ y2 (by omega)
    ·obtain ⟨c,r5,z1,z2,_⟩:=L3 y2 (by omega) 3
     obtain ⟨u1,u2⟩:=a4e x2 (by omega) (e:=⟨5,c,[]⟩) (a1c (by simp))
     simp only [cond_false,cond_true,z1,Option.bind_some]
     rw [show (⟨w3.Nodes,w3.Net,w3.Asked,w3.Told⟩:l7)=w3 from rfl,u1]
     simp only [Option.bind_some,j8.go]
     exact fin (M1 w3 ⟨5,c,[]⟩) _ r5 _ ⟨u2.w,u2.e,by have:=u2.l; omega⟩ z2 (by simp; omega)
   ·obtain ⟨c,r5,z1,z2,_⟩:=L3 y2 (by omega) 3
    obtain ⟨u1,u2⟩:=a4e x2 (by omega) (e:=⟨7,c,[]⟩) (a1c (by simp))
    simp only [cond_true,z1,Option.bind_some]
    rw [show (⟨w3.Nodes,w3.Net,w3.Asked,w3.Told⟩:l7)=w3 from rfl,u1]
    simp only [Option.bind_some,j8.go]
    exact fin (M1 w3 ⟨7,c,[]⟩) _ r5 _ ⟨u2.w,u2.e,by have:=u2.l; omega⟩ z2 (by simp; omega)
  obtain ⟨w5,o5,r6,s1,s2,s3⟩:=hstep
  rw [O5 (body:=fun s:n8×(List j4)×(List l9)×(List t7)×(List n4)×(List n9)×Int=>b1V s.1 s.2.1 s.2.2.1 s.2.2.2.1 s.2.2.2.2.1 s.2.2.2.2.2.1 s.2.2.2.2.2.2) (s:=(r,w.Nodes,w.Net,w.Asked,w.Told,out,((i+1:Nat):Int))) s1]
  exact c9d i r6 w5 o5 (by omega) s2 s3
theorem e1n {r:n8} {m:Nat} (h:Rd r m) (hm:m≤100) : ∃ l r',b58 r=some (l,r')∧(∀ e∈l,a00 e)∧l.length≤300∧Rd r' 1000000:=by
 obtain ⟨a,r1,p1,p2,_⟩:=L3 h (by omega) 3
 obtain ⟨t1,t2⟩:=a4e (w:=a4a) (out:=[]) (b:=0) ⟨WI.open,by simp,by simp⟩ (by omega) (e:=⟨5,a,[]⟩) (a1c (by simp))
 obtain ⟨b,r2,q1,q2,_⟩:=L3 p2 (by omega) 3
 unfold b58
 rw [d4C,Option.bind_some,p1,Option.bind_some,t1,Option.bind_some,q1,Option.bind_some]
 have tail : ∀ (w:l7) (out:List n9) (r3:n8) (j:Nat),Far w out 130→Rd r3 j→j≤200 → ∃ l r',c0K r3 w.Nodes w.Net w.Asked w.Told out=some (l,r')∧(∀ e∈l,a00 e)∧l.length≤300∧Rd r' 1000000:=by
  intro w out r3 j hf hr3 hj
  obtain ⟨c,r4,x1,x2,x3,x4⟩:=L3 hr3 (by omega) 3
  obtain ⟨i,hi,hi6⟩ : ∃ i:Nat,m9 (3+c)=(i:Int)∧i≤6:=⟨(3+c).toNat,by rw [E7 (by omega) (by omega)]; omega,by omega⟩
  obtain ⟨r',out',e1,e2,e3⟩:=c9d i r4 w out hi6 ⟨hf.w,hf.e,by have:=hf.l; omega⟩ (x2.mono (by omega))
  unfold c0K
  rw [x1,Option.bind_some,hi,e1]
  exact ⟨out',r',rfl,e2,e3⟩
 have tf:Far (M1 a4a ⟨5,a,[]⟩) ([]++[(⟨5,a,[]⟩:n9)]) 1:=t2
 cases decide (b>0)
 ·obtain ⟨c,r3,x1,x2,_⟩:=L3 q2 (by omega) 5
  simp only [cond_false,x1,Option.bind_some]
  cases c==0
  ·exact tail _ _ r3 _ ⟨tf.w,tf.e,by simp⟩ x2 (by omega)
  ·obtain ⟨w',o',r',y1,y2,y3⟩:=e3d x2 (by omega) tf
   simp only [cond_true]
   rw [y1]
   exact tail w' o' r' _ y2 y3 (by omega)
 ·obtain ⟨v,r3,x1,x2,x3⟩:=b4y q2 (by omega) [10,30,60,90] (by simp) (by simp)
  obtain ⟨n,hn,hn90⟩ : ∃ n:Nat,v=(n:Int)∧n≤90:=by
   simp at x3
   rcases x3 with rfl | rfl | rfl | rfl
   ·exact ⟨10,rfl,by omega⟩
   ·exact ⟨30,rfl,by omega⟩
   ·exact ⟨60,rfl,by omega⟩
   ·exact ⟨90,rfl,by omega⟩
  obtain ⟨l,r4,y1,y2,y3,y4⟩:=e7x x2 (by omega) tf.w hn90
  simp only [cond_true,x1,Option.bind_some]
  rw [hn,y1,Option.bind_some,x5 (by simp; omega)]
  refine ⟨_,_,rfl,?_,by simp; omega,y4⟩
  intro e he
  rcases List.mem_append.1 he with q | q
  ·exact tf.e e q
  ·exact y2 e q
def b47 (e:l8) (v:m6):Bool:=decide (v.a7>0)&&M6 v.g9 e
def a01 (l:List j4) (s:Nat) (e:l8):Nat:=(l.filter fun n=>b47 e (F4 n s)).length
theorem d9n {l:List j4} (s:Nat) (e:l8) {k:Nat} (hk:k<l.length):a01 (l.take (k+1)) s e=a01 (l.take k) s e+(bif b47 e (F4 l[k] s) then 1 else 0):=by
 unfold a01
 rw [List.take_succ_eq_append_getElem hk,List.filter_append,List.length_append,List.filter_cons,List.filter_nil]
 cases b47 e (F4 l[k] s)<;>rfl
theorem d3l (l:List j4) (s:Nat) (e:l8) (k:Nat):a01 (l.take k) s e≤k:=by
 unfold a01
 refine Nat.le_trans (List.length_filter_le _ _) ?_
 rw [List.length_take]
 omega
theorem e1P {w:l7} (h:K0 w) (s:Nat) (e:l8):b8u w (s:Int) e=some ((a01 w.Nodes s e:Nat):Int):=by
 have hf:s9 w.Nodes:=h.1.fits (by decide)
 have hloop:=a05 (body:=fun t:Int×Int=>a9I w (s:Int) e t.1 t.2) (fun k=>(((a01 (w.Nodes.take k) s e:Nat):Int),(k:Int))) w.Nodes.length (by
  intro k hk
  have hb:=d3l w.Nodes s e k
  have hle:=hf
  unfold s9 at hle
  have hn:m9 (((a01 (w.Nodes.take k) s e:Nat):Int)+1)=((a01 (w.Nodes.take k) s e+1:Nat):Int):=by rw [E7 (by omega) (by omega)]; omega
  simp only
  unfold a9I c53
  rw [x6 _ k hk,t8 hk,J0 hf hk]
  simp only [cond_true,Option.bind_some,c1P,b52 (c1e (h.1.2 _ (List.getElem_mem hk)) s).2,hn,d9n s e hk]
  unfold b47
  cases decide ((F4 w.Nodes[k] s).a7>0)<;>cases M6 (F4 w.Nodes[k] s).g9 e<;>rfl)
 rw [List.take_length,show ((0:Nat):Int)=0 from rfl] at hloop
 unfold b8u
 rw [show o9 (fun t:Int×Int=>a9I w (s:Int) e t.1 t.2) (0,0)=_ from hloop,H3 (b:=((a01 w.Nodes s e:Nat):Int))]
 ·rfl
 ·unfold a9I
  rw [A4]; rfl
theorem e9P {w:l7} (h:K0 w) (hw:WI w) (s:Nat) (e:l8):b97 w (s:Int) e=some ((a01 w.Nodes s e:Nat):Int):=by
 have hf:s9 w.Nodes:=h.1.fits (by decide)
 have hloop:=a05 (body:=fun t:Int×Int=>a9X w (s:Int) e t.1 t.2) (fun k=>((k:Int),((a01 (w.Nodes.take k) s e:Nat):Int))) w.Nodes.length (by
  intro k hk
  have hb:=d3l w.Nodes s e k
  have hle:=hf
  unfold s9 at hle
  have hn:m9 (((a01 (w.Nodes.take k) s e:Nat):Int)+1)=((a01 (w.Nodes.take k) s e+1:Nat):Int):=by rw [E7 (by omega) (by omega)]; omega
  have hni:=(hw.ns k w.Nodes[k] (List.getElem?_eq_getElem hk)).2
  simp only
  unfold a9X c4G
  rw [x6 _ k hk,t8 hk,J0 hf hk]
  simp only [cond_true,Option.bind_some,d9n s e hk]
  by_cases hs:s<w.Nodes[k].Acc.a0.length
  ·have hva:F4 w.Nodes[k] s=w.Nodes[k].Acc.a0[s]:=by unfold F4; rw [List.getElem?_eq_getElem hs]; rfl
   have hvi:=(hni.vs _ (List.getElem_mem hs)).1
   have hpos:(w.Nodes[k].Acc.a0[s].a7 != 0)=decide (w.Nodes[k].Acc.a0[s].a7>0):=by
    have h0:0≤w.Nodes[k].Acc.a0[s].a7:=hvi.bal.1
    by_cases hz:w.Nodes[k].Acc.a0[s].a7=0
    ·rw [hz]; rfl
    ·rw [decide_eq_true (show w.Nodes[k].Acc.a0[s].a7>0 by omega)]; simpa using hz
   rw [hva,x6 _ s hs,t8 hs]
   simp only [cond_true,Option.bind_some,hpos]
   unfold b47
   cases decide (w.Nodes[k].Acc.a0[s].a7>0)
   ·rfl
   ·simp only [cond_true,a7k ((h.1.2 _ (List.getElem_mem hk)).2.1.2.2 _ (List.getElem_mem hs)).2,Option.bind_some,hn]
    cases M6 w.Nodes[k].Acc.a0[s].g9 e<;>rfl
  ·have hva:F4 w.Nodes[k] s=zV:=by unfold F4; rw [List.getElem?_eq_none (by omega)]; rfl
   rw [hva,decide_eq_false (show ¬ ((s:Int)<(w.Nodes[k].Acc.a0.length:Int)) by omega)]
   rfl)
 rw [List.take_length,show ((0:Nat):Int)=0 from rfl] at hloop
 unfold b97
 rw [show o9 (fun t:Int×Int=>a9X w (s:Int) e t.1 t.2) (0,0)=_ from hloop,H3 (b:=((a01 w.Nodes s e:Nat):Int))]
 ·rfl
 ·unfold a9X
  rw [A4]; rfl
def b2Q (w:l7) (n:j4) (k:Nat):Bool:=match n.a6[k]? with
 | some e => !decide (((a01 w.Nodes k e:Nat):Int)<2)
 | none=>true
def a5a (w:l7) (n:j4):Bool:=(List.range n.a6.length).all (b2Q w n)
theorem d09 {w:l7} {n:j4} {k:Nat} (hk:k<n.a6.length):b2Q w n k = !decide (((a01 w.Nodes k n.a6[k]:Nat):Int)<2):=by
 unfold b2Q
 rw [List.getElem?_eq_getElem hk]
theorem f1M {w:l7} (h:K0 w):b1B w=some (A3 w&&w.Nodes.all (a5a w)):=by
 have hf:s9 w.Nodes:=h.1.fits (by decide)
 have hin : ∀ (i:Nat) (hi:i<w.Nodes.length),o9 (fun t:Int=>b5c w (i:Int) t) 0=some (bif a5a w w.Nodes[i] then .brk () else .ret false):=by
  intro i hi
  have hk0:s9 w.Nodes[i].a6:=(h.1.2 _ (List.getElem_mem hi)).2.2.1.fits (by decide)
  refine a0R w.Nodes[i].a6 hk0 (b2Q w w.Nodes[i]) false () ?_ ?_
  ·intro k hk _
   unfold b5c
   rw [t8 hi,Option.bind_some,x6 _ k hk,t8 hk,d09 hk]
   simp only [cond_true,Option.bind_some,e1P h]
   cases decide (((a01 w.Nodes k w.Nodes[i].a6[k]:Nat):Int)<2)<;>rfl
  ·unfold b5c
   rw [t8 hi,Option.bind_some,A4]; rfl
 unfold b1B
 rw [a6g h,Option.bind_some]
 cases A3 w
 ·rfl
 simp only [Bool.not_true,cond_false,Bool.true_and]
 rw [M0 w.Nodes hf (a5a w) false ()]
 ·cases w.Nodes.all (a5a w)<;>rfl
 ·intro k hk
  unfold b89 c2e
  rw [x6 _ k hk,hin k hk]
  cases a5a w w.Nodes[k]<;>rfl
 ·unfold b89
  rw [A4]; rfl
theorem e9f {w:l7} (h:K0 w):b1g w=some (A3 w&&w.Nodes.all (a5a w)):=by
 have hf:s9 w.Nodes:=h.1.fits (by decide)
 unfold b1g
 rw [a8P h,Option.bind_some]
 cases hwo:A3 w
 ·rfl
 have hw:WI w:=b9u.1 hwo
 have hin : ∀ (i:Nat) (hi:i<w.Nodes.length),o9 (fun t:Int=>b5b w w.Nodes[i] t) 0=some (bif a5a w w.Nodes[i] then .brk () else .ret false):=by
  intro i hi
  have hk0:s9 w.Nodes[i].a6:=(h.1.2 _ (List.getElem_mem hi)).2.2.1.fits (by decide)
  refine a0R w.Nodes[i].a6 hk0 (b2Q w w.Nodes[i]) false () ?_ ?_
  ·intro k hk _
   unfold b5b
   rw [x6 _ k hk,t8 hk,d09 hk]
   simp only [cond_true,Option.bind_some,e9P h hw]
   cases decide (((a01 w.Nodes k w.Nodes[i].a6[k]:Nat):Int)<2)<;>rfl
  ·unfold b5b
   rw [A4]; rfl
 simp only [Bool.not_true,cond_false,Bool.true_and]
 rw [M0 w.Nodes hf (a5a w) false ()]
 ·cases w.Nodes.all (a5a w)<;>rfl
 ·intro k hk
  unfold b7W c4m
  rw [x6 _ k hk,t8 hk]
  simp only [cond_true,Option.bind_some,hin k hk]
  cases a5a w w.Nodes[k]<;>rfl
 ·unfold b7W
  rw [A4]; rfl
theorem C3.put {α:Type} {sz:Nat} {ok:α→Prop} {l:List α} (h:C3 sz ok l) (i:Nat) {x:α} (hx:ok x):C3 sz ok (l.set i x) :=
 ⟨by rw [List.length_set]; exact h.1,fun y hy=>(List.mem_or_eq_of_mem_set hy).elim (h.2 y) fun e=>e▸hx⟩
theorem K0.setN {w:l7} (h:K0 w) {n:j4} (hn:P1 n) (i:Nat):K0 ⟨w.Nodes.set i n,w.Net,w.Asked,w.Told⟩:=⟨h.1.put i hn,h.2⟩
theorem P1.votes {n:j4} (h:P1 n) {l:List m6} (hl:C3 96 a0l l):P1 ⟨n.Id,⟨n.Acc.d9,l⟩,n.a6,n.Seq,n.d7,n.a7,n.b5,n.i4,n.b9,n.a0,n.i6,n.g7,n.b8,n.b7⟩:=⟨h.1,⟨h.2.1.1,hl⟩,h.2.2⟩
theorem P1.known {n:j4} (h:P1 n) {l:List l8} (hl:C3 88 G6 l):P1 ⟨n.Id,n.Acc,l,n.Seq,n.d7,n.a7,n.b5,n.i4,n.b9,n.a0,n.i6,n.g7,n.b8,n.b7⟩:=⟨h.1,h.2.1,hl,h.2.2.2⟩
theorem e9U {b:Int} (h:K6 b) {e:l8} (he:G6 e):a0l ⟨b,e⟩:=⟨h,he⟩
theorem c3q (b:Bool):G6 ⟨b,⟨0,0⟩,⟨[],[],0,0⟩⟩:=d4k
theorem e85 {r:n8} {m:Nat} (h:Rd r m) (hm:m≤100) : ∃ w r',b9Q r=some (w,r')∧K0 w:=by
 obtain ⟨s,r1,a1,a2,a3,a4⟩:=e1n h hm
 have hw:=d7m WI.open (l:=s) a2
 have hpl:=e26 WI.open.ok (l:=s) (by unfold s9; omega) a2
 rw [b9u.2 WI.open,decide_eq_true (by omega)] at hpl
 simp only [Bool.and_true,cond_true] at hpl
 generalize a8I a4a s=w at hw hpl
 obtain ⟨i,r2,b1,b2,b3,b4⟩:=L3 a4 (by omega) 3
 obtain ⟨c,r3,c1,c2,_⟩:=L3 b2 (by omega) 12
 obtain ⟨k,rfl,hk⟩ : ∃ k:Nat,i=(k:Int)∧k<w.Nodes.length:=⟨i.toNat,by omega,by rw [hw.nl]; omega⟩
 have hn:=hw.ok.1.2 _ (List.getElem_mem hk)
 have hni:=(hw.ns k w.Nodes[k] (List.getElem?_eq_getElem hk)).2
 unfold b9Q c1I
 simp only [d4C,a1,b1,c1,hpl,Option.bind_some,t8 hk,Int.toNat_natCast]
 cases c==0
 case true =>
  simp only [cond_true]
  cases hp:decide ((w.Nodes[k].a6.length:Int)>0)
  ·simp only [cond_false,Option.bind_some,j8.go]
   exact ⟨_,_,rfl,hw.ok.setN hn k⟩
  ·have hp':0<w.Nodes[k].a6.length:=by have:=of_decide_eq_true hp; omega
   simp only [cond_true]
   cases decide ((w.Nodes[k].a6.length:Int)<30)
   ·simp only [cond_false,Option.bind_some,j8.go]
    exact ⟨_,_,rfl,hw.ok.setN hn k⟩
   ·rw [show idx w.Nodes[k].a6 0=some w.Nodes[k].a6[0] from t8 (k:=0) hp']
    simp only [cond_true,Option.bind_some,j8.go]
    exact ⟨_,_,rfl,hw.ok.setN (hn.known (hn.2.2.1.put _ (c3q _))) k⟩
 simp only [cond_false]
 cases c==1
 case true =>
  simp only [cond_true]
  cases hp:decide ((w.Nodes[k].Acc.a0.length:Int)>0)
  ·simp only [cond_false,Option.bind_some,j8.go]
   exact ⟨_,_,rfl,hw.ok.setN hn k⟩
  ·have hp':0<w.Nodes[k].Acc.a0.length:=by have:=of_decide_eq_true hp; omega
   rw [show idx w.Nodes[k].Acc.a0 0=some w.Nodes[k].Acc.a0[0] from t8 (k:=0) hp']
   simp only [cond_true,Option.bind_some,j8.go]
   exact ⟨_,_,rfl,hw.ok.setN (hn.votes (hn.2.1.2.put _ (e9U (hn.2.1.2.2 _ (List.getElem_mem hp')).1 (c3q _)))) k⟩
 simp only [cond_false]
 cases c==2
 case true =>
  simp only [cond_true,Option.bind_some,j8.go]
  exact ⟨_,_,rfl,hw.ok.setN (hn.votes ⟨by simp,by simp⟩) k⟩
 simp only [cond_false]
 cases c==3
 case true =>
  have hkl:=hni.kl
  simp only [cond_true]
  rw [x5 (by omega)]
  simp only [Option.bind_some,j8.go]
  refine ⟨_,_,rfl,hw.ok.setN (hn.known ⟨by rw [List.length_append,List.length_singleton]; omega,fun x hx => ?_⟩) k⟩
  rcases List.mem_append.1 hx with q | q
  ·exact hn.2.2.1.2 x q
  ·rw [List.mem_singleton.1 q]; exact c3q _
 simp only [cond_false,Option.bind_some,j8.go]
 exact ⟨_,_,rfl,hw.ok⟩
theorem e4e {N8:List Int} (h : ∀ x∈N8,a6v x) : ∃ w,c02 N8=some w∧K0 w:=by
 obtain ⟨r,a1,a2⟩:=e8K h
 obtain ⟨w,r',b1,b2⟩:=e85 a2 (by omega)
 unfold c02
 simp only [a1,b1,Option.bind_some]
 exact ⟨w,rfl,b2⟩
theorem e0A {w:l7} (h:K0 w) : ∃ v,b35 w=some v∧b5i w=some v:=⟨_,by rw [f3m h,Bool.and_comm],f3o h⟩
theorem f0R {w:l7} (h:K0 w) {a b c d:Bool} (ha:a8Z w=some a) (ha':a8J w=some a) (hb:a9d w=some b) (hb':a9n w=some b) (hc:b1B w=some c) (hc':b1g w=some c) (hd:a8F w=some d) (hd':a9v w=some d) :
  ∃ v,b6w w=some v∧b4I w=some v∧(v=true→a=true∧b=true∧c=true∧d=true):=by
 obtain ⟨t,t1,t2⟩:=e3o h
 obtain ⟨o,o1,o2⟩:=e0A h
 unfold b6w b4I
 simp only [ha,ha',hb,hb',hc,hc',hd,hd',e5b h,f2u h,t1,t2,o1,o2,Option.bind_some]
 cases a
 ·exact ⟨false,rfl,rfl,by simp⟩
 cases b
 ·exact ⟨false,rfl,rfl,by simp⟩
 cases c
 ·exact ⟨false,rfl,rfl,by simp⟩
 cases d
 ·exact ⟨false,rfl,rfl,by simp⟩
 cases a4D w
 ·exact ⟨false,rfl,rfl,by simp⟩
 cases t
 ·exact ⟨false,rfl,rfl,by simp⟩
 exact ⟨o,rfl,rfl,by simp⟩
theorem e6n {N8:List Int} (h:C3 1 a6v N8):c7j N8=some true:=by
 unfold c7j
 cases decide ((N8.length:Int)>1048576)
 case true=>rfl
 obtain ⟨w,a1,hw⟩:=e4e h.2
 obtain ⟨a,ha,ha'⟩:=f1e hw
 obtain ⟨b,hb,hb'⟩:=e5O hw
 obtain ⟨d,hd,hd'⟩:=e9t hw
 have hc:=f1M hw
 have hc':=e9f hw
 obtain ⟨v,v1,v2,v3⟩:=f0R hw ha ha' hb hb' hc hc' hd hd'
 simp only [cond_false,a1,ha,ha',hb,hb',hc,hc',hd,hd',v1,v2,Option.bind_some,beq_self_eq_true,Bool.not_true]
 cases v
 ·rfl
 ·obtain ⟨x1,x2,x3,x4⟩:=v3 rfl
  simp only [x1,x2,x3,x4,Bool.not_true,cond_false,cond_true]
end Go.Proofs.YtlbgdppcdchhfaaGreat
