/- Abstract values and states of the program, functions of the program and what their calls come to, and what follows from it: part 5 of the text that the law leans on; long names are written short. -/
import Derived.Test.YtnafpblodcmpkaaGreatP4
set_option linter.unusedVariables false
set_option linter.unusedSimpArgs false
set_option linter.unnecessarySimpa false
namespace Go.Proofs.YtnafpblodcmpkaaGreat
open Go
open Option renaming bind_some->d8Y,map_some->d9t
open List renaming getElem?_eq_getElem->d8Z,getElem_mem->d85,all_eq_true->d86,range->d87,getD_eq_getElem?_getD->d9b,mem_map->d9l,getElem?_map->d9o,getElem?_eq_none->d9E,length_take->d91,drop_zero->e0c,getElem?_take->e0k
open Bool renaming not_true->d9e,true_and->d9m
open Int renaming toNat_natCast->d9q,tmod->d9x,tdiv->e0m,tmod_eq_emod_of_nonneg->e0n
open Nat renaming le_refl->d9B
noncomputable section
theorem d2s{code more:List Int}(h:z0 1 a2G code)(h':z0 1 a2G more):b7y code more=some true:=by
 unfold b7y;cases decide ((code.length:Int)>1048576);case true=>rfl
 cases decide ((more.length:Int)>1048576);case true=>rfl
 obtain ⟨bx,ps,d1,d2,d3⟩:=c82 h.2;have hm:more.length<=140737488351232:=h'.fits (by decide);obtain ⟨L,hL,hL3⟩:∃a:Int,d9x (more.length:Int) 3=a/\(a=0\/a=1\/a=2):=⟨_,rfl,by rw [e0n (by omega)];omega⟩
 obtain ⟨s,hs,hs3⟩:∃s:Int,(e0m (more.length:Int) 3) % 3=s/\(s=0\/s=1\/s=2):=⟨_,rfl,by omega⟩
 have hwho:∀k:Nat,k<5->d9x (l9 (l9 (e0m (more.length:Int) 3)+(k:Int))) 3=F6 s k:=by
  intro k hk;rw [Int.tdiv_eq_ediv_of_nonneg (by omega)] at hs ⊢;rw [show l9 ((more.length:Int) / 3)=(more.length:Int) / 3 from B4 (by omega) (by omega),B4 (by omega) (by omega),e0n (by omega)];unfold F6;omega
 have hLr:0<=L/\L<=2:=by omega
 let p:Nat->List m5:=fun k=>ps.getD k []
 have hp:∀k (hk:k<ps.length),p k=ps[k]:=fun k hk=>by
  show ps.getD k []=_
  rw [d9b,d8Z hk];rfl
 have r0:Row L s p 0:=a7s hL3 hs3 0 (by omega) (fun j hj=>by omega);obtain ⟨c1,c2⟩:=c4j r0 (a6N hL3 hs3 (by omega));have hw0:a4J L3 L=some (z5 L s p 0):=c0N b09 hLr;simp only [e0P,d1,d8Y,d7g,hL,hw0,c1,c2,d9e];have go:∀(d k:Nat),k<=5->k<=ps.length->min 5 ps.length-k=d->(∀j,j<k->z9 (p j)=true)->
   p6 (fun s:Int×j8=>W4 more (bx,ps) s.1 s.2) ((k:Int),z5 L s p k)=some (.ret true)\/
   ((∀j,j<min 5 ps.length->z9 (p j)=true)/\p6 (fun s:Int×j8=>W4 more (bx,ps) s.1 s.2) ((k:Int),z5 L s p k)=some (.brk (z5 L s p (min 5 ps.length)))):=by
  intro d;induction d with
  | zero=>
   intro k k5 kl hd hpr;have hk:k=min 5 ps.length:=by omega
   right
   refine ⟨fun j hj=>hpr j (by omega),?_⟩;rw [<-hk];refine E9 (body:=fun s:Int×j8=>W4 more (bx,ps) s.1 s.2) ?_;unfold W4;by_cases q:k<ps.length
   ·rw [x7 _ k q,show decide ((k:Int)<5)=false by simp;omega];rfl
   ·rw [show decide ((k:Int)<(ps.length:Int))=false by simp;omega];rfl
  | succ d ih=>
   intro k k5 kl hd hpr;have hk5:k<5:=by omega
   have hkl:k<ps.length:=by omega
   have hlen:(p k).length<=11:=by rw [hp k hkl];exact d3 _ (d85 hkl)
   have hf:s6 ps[k]:=by rw [<-hp k hkl];unfold s6;omega
   cases hpo:z9 (p k)
   ·left
    refine a0r (body:=fun s:Int×j8=>W4 more (bx,ps) s.1 s.2) ?_;unfold W4;rw [hp k hkl] at hpo;rw [x7 _ k hkl,show decide ((k:Int)<5)=true by simp;omega,e0O,e0O,s8 hkl,d8Y,b3b hf,d8Y,hpo];rfl
   ·have hpr':∀j,j<k+1->z9 (p j)=true:=fun j hj=>by
     by_cases q:j=k
     ·rw [q];exact hpo
     ·exact hpr j (by omega)
    have hlen':∀j,j<k+1->(p j).length<=100:=fun j hj=>by
     have:=d3 _ (d85 (show j<ps.length by omega));rw [hp j (by omega)];omega
    have rk:Row L s p k:=a7s hL3 hs3 k (by omega) fun j hj=>⟨hpr j hj,hlen' j (by omega)⟩
    have rk1:Row L s p (k+1):=a7s hL3 hs3 (k+1) (by omega) fun j hj=>⟨hpr' j hj,hlen' j hj⟩
    have ok1:=a6N hL3 hs3 (k:=k+1) (by omega);obtain ⟨t1,_⟩:=c5c rk1 ok1;obtain ⟨e1,_⟩:=c4j rk1 ok1;have he:a1B ⟨1,F6 s k,p k⟩:=⟨by show (p k).length*32<=_;omega,fun _ _=>trivial⟩
    have hdo:=c8V rk.aw.wi he;have hround:a4J (E0 (z5 L s p k) ⟨1,F6 s k,p k⟩) L=some (z5 L s p (k+1)):=c0N (O2 rk.aw he) hLr;have hn:l9 ((k:Int)+1)=((k+1:Nat):Int):=by rw [B4 (by omega) (by omega)];omega
    have hb:W4 more (bx,ps) (k:Int) (z5 L s p k)=some (.nxt (((k+1:Nat):Int),z5 L s p (k+1))):=by
     unfold W4;rw [x7 _ k hkl,show decide ((k:Int)<5)=true by simp;omega,e0O,e0O,s8 hkl,d8Y,b3b hf,d8Y,<-hp k hkl,hpo,hwho k hk5,hL];simp only [d9e,e0P,hdo,d8Y,hround,e1,hn,t1,bne_self_eq_false]
    rcases ih (k+1) (by omega) (by omega) (by omega) hpr' with q|⟨q1,q2⟩
    ·left
     rw [F8 (body:=fun s:Int×j8=>W4 more (bx,ps) s.1 s.2) hb];exact q
    ·right
     refine ⟨q1,?_⟩;rw [F8 (body:=fun s:Int×j8=>W4 more (bx,ps) s.1 s.2) hb];exact q2
 rcases go _ 0 (by omega) (by omega) rfl (fun j hj=>by omega) with q|⟨q1,q2⟩
 ·rw [show p6 (fun s:Int×j8=>W4 more (bx,ps) s.1 s.2) (0,z5 L s p 0)=_ from q];rfl
 ·rw [show p6 (fun s:Int×j8=>W4 more (bx,ps) s.1 s.2) (0,z5 L s p 0)=_ from q2,d8Y];simp only [j9.go];obtain ⟨n,hn,hn5,hnl⟩:∃n:Nat,min 5 ps.length=n/\n<=5/\n<=ps.length:=⟨_,rfl,by omega,by omega⟩
  rw [hn] at q1 ⊢;have hlen':∀j,j<n->(p j).length<=100:=fun j hj=>by
   have:=d3 _ (d85 (show j<ps.length by omega));rw [hp j (by omega)];omega
  have rn:Row L s p n:=a7s hL3 hs3 n hn5 fun j hj=>⟨q1 j hj,hlen' j hj⟩
  have okn:=a6N hL3 hs3 (k:=n) hn5;obtain ⟨t1,t2⟩:=c5c rn okn;have h0:0<(z5 L s p n).c6.length:=by rw [rn.aw.wi.nl];omega
  obtain ⟨g0,_⟩:=c8q rn.aw.wi h0;have hni:=(a6W rn.aw.wi (i:=0) (by unfold D3;omega)).1;have hls:G6 (D1 s p n)=true:=by
   have:=hni.list;rwa [show (q9 (z5 L s p n) 0).a6=D1 s p n by have:=rn.kn _ (d85 h0);rw [g0] at this;exact this] at this
  obtain ⟨s1,s2⟩:=b8f hls n (d9B _);have htake:(ps.drop 0).take ((n:Int).toNat-0)=(d87 n).map p:=by
   rw [e0c,d9q,Nat.sub_zero];apply List.ext_getElem?;intro i;by_cases hi:i<n
   ·rw [e0k,if_pos hi,d9o,List.getElem?_range hi,d8Z (by omega),d9t,hp i (by omega)]
   ·rw [d9E (by rw [d91];omega),d9E (by simp;omega)]
  have hser:a8J a5w ((d87 n).map p)=some (P8 s p n,(d87 n).map (a0A s p)):=by
   rw [d5f (a5y b6g) (fun q hq=>by
    obtain ⟨j,hj,rfl⟩:=d9l.1 hq;have:=hlen' j (by simpa using hj);unfold s6;omega)]
   unfold H2;rw [b6g,d9m,decide_eq_true (by simp;omega),e0O,s1]
  have hk6:b1e (bx,ps) (z5 L s p n)=b04 (bx,ps) (z5 L s p n) (n:Int):=by
   unfold b1e;by_cases q:(ps.length:Int)>5
   ·rw [decide_eq_true q,show n=5 by omega];rfl
   ·rw [decide_eq_false q,show n=ps.length by omega];rfl
  rw [hk6];unfold b04;rw [d5t,d8Y,x6 ⟨by omega,by simp only;omega⟩];rw [show (((bx,ps):(List m7×Nat)×List (List m5)).2.drop 0).take ((n:Int).toNat-0)=_ from htake,hser,d8Y];have hvl:((d87 n).map (a0A s p)).length=n:=by simp
  rw [K6 (body:=fun s_1:Int=>a7I (z5 L s p n) (P8 s p n,(d87 n).map (a0A s p)) s_1) ((d87 n).map (a0A s p)) (by unfold s6;omega) (fun _=>true) false () (fun k hk => ?_) (by unfold a7I;rw [A4];rfl)]
  ·rw [d86.2 fun _ _=>rfl];simp only [e0O,d8Y,j9.go];unfold b4N;rw [show idx (z5 L s p n).c6 0=some (z5 L s p n).c6[0] from s8 h0,d8Y,c5C (by rw [g0];exact hni),d8Y,rn.kn _ (d85 h0)];show ((a8D (P8 s p n) (P8 s p n)).bind fun b1P=>bif b1P then some ((((d87 n).map (a0A s p)).length:Int)==(n:Int)) else some false)=_
   rw [d4f (a5y s2),d8Y];show (bif a7E (P8 s p n) (P8 s p n) then some ((((d87 n).map (a0A s p)).length:Int)==(n:Int)) else some false)=_
   rw [d6P,hvl];simp
  ·have hkn:k<n:=by rw [hvl] at hk;exact hk
   have htk:k<(z5 L s p n).Told.length:=by rw [t1];exact hkn
   have hv:=t2 k _ (d8Z htk);unfold a7I;rw [x7 _ k hk,s8 htk,e0O,d8Y,s8 hk,d8Y,hv];have:((d87 n).map (a0A s p))[k]=a0A s p k:=by simp
   rw [this,bne_self_eq_false];rfl
end
end Go.Proofs.YtnafpblodcmpkaaGreat
