/- Abstract values and states of the program, functions of the program and what their calls come to, and what follows from it: part 5 of the text that the law leans on; long names are written short. -/
import Derived.Test.YthbeecjnggpjnaaGreatP4
set_option linter.unusedVariables false
set_option linter.unusedSimpArgs false
set_option linter.unnecessarySimpa false
namespace Go.Proofs.YthbeecjnggpjnaaGreat
open Go
open Option renaming bind_some → f5s, getD_some → f6G, map_some → f6I, map_eq_some_iff → f6U
open List renaming getElem?_eq_getElem → f5t, replicate → f5u, getElem_mem → f5v, mem_singleton → f5y, getElem?_eq_some_iff → f5z, range → f5A, mem_cons → f5B, nodup_append → f5C, length_append → f5D, eq_nil_of_length_eq_zero → f5E, mem_of_getElem? → f5F, getD_eq_getElem?_getD → f5G, getElem?_append_right → f5I, append_assoc → f5J, length_take → f5L, take_length → f5M, getElem?_set_ne → f5N, getElem?_append_left → f5O, getElem?_eq_none → f5Q, drop_eq_nil_of_le → f5S, take_succ_eq_append_getElem → f5T, drop_eq_getElem_cons → f5U, flatten_cons → f5X, map_cons → f6b, append_nil → f6d, getElem_of_mem → f6e, any_eq_false → f6f, take_of_length_le → f6g, take_append_of_le_length → f6h, take_zero → f6i, pairwise_iff_getElem → f6j, mem_of_mem_take → f6k, length_map → f6l, mem_replicate → f6m, findIdx?_eq_some_iff_getElem → f6n, nil_append → f6o, mem_of_mem_drop → f6p, take_append_drop → f6r, mem_flatten → f6s, getElem?_map → f6t, mem_take_iff_getElem → f6u, getElem?_set_self → f6v, length_cons → f6y, length_singleton → f6z, getElem?_cons_zero → f6A, mem_range → f6B, map_append → f6E, getElem?_cons_succ → f6F, drop_zero → f6H, pairwise_cons → f6K, length_set → f6M, nodup_cons → f6N, any_eq_true → f6P, mem_append_left → f6R, getElem?_set → f6S, getElem?_drop → f6V, getElem?_take → f6W, find?_cons → f6Y, length_nil → f6Z, all_eq_false → f7a, sublist_append_right → f7c, getElem?_of_mem → f7d, pairwise_append → f7e, Perm → f7g, drop_drop → f7h, cons_append → f7j, not_mem_nil → f7k, getElem_map → f7l, take_succ_cons → f7m, replicate_succ → f7n, foldl_cons → f7o, drop_append_of_le_length → f7p, size_toArray → f7q, toArray → f7r, map_map → f7s, Sublist → f7t, set_getElem_self → f7u, length_replicate → f7w, getElem?_append → f7x, length_drop → f7A, mem_cons_of_mem → f7B, any_cons → f7C, flatten_append → f7D, findIdx?_eq_none_iff → f7F, mem_of_find?_eq_some → f7G, find?_eq_none → f7H, foldl_nil → f7J
open Bool renaming and_eq_true → f5w, not_true → f5x, true_and → f5H, not_false → f5V, not_eq_true' → f6a, false_or → f6c, or_eq_false_iff → f6D, false_eq_true → f6J, and_true → f6L, eq_iff_iff → f6O, and_assoc → f7i, true_or → f7v, not_eq_true → f7z, not_not → f7I
open Nat renaming le_refl → f5K, mul_le_mul_right → f5Y, eq_of_beq_eq_true → f5Z, zero_add → f6x, succ_mul → f6C, lt_of_lt_of_le → f6Q, le_mul_of_pos_right → f6T, add_zero → f6X, le_succ_of_le → f7b, zero_le → f7f
open Int renaming toNat_natCast → f5P, le_refl → f5R, tmod → f5W, le_trans → f6q, tdiv → f7y
open Option.some renaming inj → f6w
open Classical renaming byContradiction → f7E
noncomputable section
theorem d0w{l:List m4}(h:A4 88 E8 l):b1O l=some l:=by
 have hf:s9 l:=h.fits (by decide);have hb:=h.1;unfold b1O;have hl:=W7 (body:=fun s:(List m4)×Int=>b4x l s.1 s.2) (fun k=>(l.take k,(k:Int))) l.length (by
  intro k hk;unfold b4x;rw [w9 _ k hk,t8 hk];simp only [cond_true,f5s,a0D (h.2 _ (f5v hk)),F3 hf hk];rw [u7 (by rw [f5L];omega),f5T hk])
 rw [show ((0:Nat):Int)=0 from rfl,f6i] at hl;rw [hl,f5M,C9 (b:=l)]
 ·rfl
 ·unfold b4x;rw [z9];rfl
def best(w:m5):Nat->Nat
 | 0=>0
 | k+1=>match w.a6[k]?,w.a6[best w k]? with
  | some a,some b=>bif decide ((a.a5.length:Int)>(b.a5.length:Int)) then k else best w k
  | _,_=>best w k
theorem a9K(w:m5):∀k,0<w.a6.length->k<=w.a6.length->best w k<w.a6.length
 | 0,h,_=>h
 | k+1,h,hk=>by
  have hb:=a9K w k h (by omega);unfold best;rw [f5t (show k<w.a6.length by omega),f5t hb];simp only;cases decide ((w.a6[k].a5.length:Int)>(w.a6[best w k].a5.length:Int))
  ·exact hb
  ·exact hk
theorem c69{w:m5}{k:Nat}(h:0<w.a6.length)(hk:k<w.a6.length):best w (k+1)=bif decide ((w.a6[k].a5.length:Int)>((w.a6[best w k]'(a9K w k h (by omega))).a5.length:Int)) then k else best w k:=by
 conv=>lhs;unfold best
 rw [f5t hk,f5t (a9K w k h (by omega))]
def ist(w:m5):Nat->Int×Int
 | 0=>(-1,0)
 | k+1=>((best w (k+1):Int),((k+1:Nat):Int))
def x9(w:m5):List m4:=match w.a6[best w w.a6.length]? with
 | some n=>n.a5
 | none=>[]
theorem c5f{w:m5}(h:U0 w)(hn:0<w.a6.length):a9W w=some (x9 w):=by
 have hf:s9 w.a6:=h.1.fits (by decide);unfold a9W;have hl:=W7 (body:=fun s:Int×Int=>a5o w s.1 s.2) (ist w) w.a6.length (by
  intro k hk;cases k with
  | zero =>
   show a5o w (-1) 0=some (.nxt ((best w (0+1):Int),((0+1:Nat):Int)))
   unfold a5o b9c;rw [show decide ((0:Int)<(w.a6.length:Int))=true from by simpa using hk,show idx w.a6 0=some w.a6[0] from t8 hk,show best w (0+1)=0 from by rw [c69 hn hk];cases decide ((w.a6[0].a5.length:Int)>(w.a6[best w 0].a5.length:Int))<;>rfl];simp only [cond_true,f5s];have:m7 ((0:Int)+1)=((0+1:Nat):Int):=F3 hf hk;rw [this];rfl
  | succ k =>
   have hb:=a9K w (k+1) hn (by omega);show a5o w (best w (k+1):Int) ((k+1:Nat):Int)=some (.nxt ((best w (k+1+1):Int),((k+1+1:Nat):Int)))
   unfold a5o b9c;rw [w9 _ (k+1) hk,t8 hk,t8 hb,c69 hn hk,show decide ((best w (k+1):Int)<0)=false from by simp];simp only [cond_true,cond_false,f5s,F3 hf hk];cases decide ((w.a6[k+1].a5.length:Int)>(w.a6[best w (k+1)].a5.length:Int))<;>rfl)
 have hbn:=a9K w w.a6.length hn (f5K _);obtain ⟨m,hm⟩:∃m,w.a6.length=m+1:=⟨w.a6.length-1,by omega⟩
 rw [show ist w w.a6.length=((best w w.a6.length:Int),(w.a6.length:Int)) from by rw [hm];rfl] at hl;rw [show p7 (fun s:Int×Int=>a5o w s.1 s.2) ((-1:Int),(0:Int))=_ from hl,C9 (b:=(best w w.a6.length:Int))]
 ·simp only [f5s,l9.go];unfold c1J x9;rw [show decide ((best w w.a6.length:Int)<0)=false from by simp,t8 hbn,f5t hbn];simp only [cond_false,f5s,c0f (h.1.2 _ (f5v hbn)).2.2.1]
 ·unfold a5o;rw [z9];rfl
theorem c6e{w:m5}(h:U0 w)(hw:C3 w=true):0<w.a6.length/\A4 88 E8 (x9 w)/\G6 (x9 w)=true:=by
 obtain ⟨h3,hn⟩:=c78 hw;have h0:0<w.a6.length:=by omega
 have hb:=a9K w w.a6.length h0 (f5K _);refine ⟨h0,?_,?_⟩
 ·unfold x9;rw [f5t hb];exact (h.1.2 _ (f5v hb)).2.2.1
 ·unfold x9;rw [f5t hb];exact (b3V (hn _ (f5v hb))).2.2.1
def F5(q:n9)(e:m4):Bool := !e.i7&&(([e.a0.b9,e.a0.Seq]:List Int)==[q.b9,q.Seq])
theorem b6F{α R S B:Type}{body:S->Option (j9 R S B)}(st:Nat->S)(l:List α)(is:α->Bool)(r:Nat->R)(b:B)(h1:∀(k:Nat) (h:k<l.length),body (st k)=some (bif is l[k] then .ret (r k) else .nxt (st (k+1))))(h2:body (st l.length)=some (.brk b)) :
  p7 body (st 0)=some (match l.findIdx? is with|some k=>.ret (r k)|none=>.brk b):=by
 rcases a4Y (body:=body) st l.length (fun k=>match l[k]? with|some x => !is x|none=>true) r b
  (fun k hk _=>by
   rw [h1 k hk,f5t hk];simp only;cases is l[k]<;>rfl) (fun _=>h2) with ⟨h,hall⟩|⟨k,hk,ho,hb,h⟩
 ·have:l.findIdx? is=none:=by
   rw [f7F];intro x hx;obtain ⟨i,hi,rfl⟩:=f6e hx;have:=hall i hi;rw [f5t hi] at this;simpa using this
  rw [this];exact h
 ·have:l.findIdx? is=some k:=by
   rw [f6n];refine ⟨hk,?_,fun j hj => ?_⟩
   ·rw [f5t hk] at ho;simpa using ho
   ·have:=hb j hj;rw [f5t (show j<l.length by omega)] at this;simpa using this
  rw [this];exact h
theorem b2T{l:List m4}(h:s9 l)(q:n9):a5F l q=some (match l.findIdx? (F5 q) with|some k=>(k:Int)|none => -1):=by
  unfold a5F;rw [show p7 (fun s:Int=>a9Q l q s) 0=_ from b6F (body:=fun s:Int=>a9Q l q s) (fun k=>(k:Int)) l (F5 q) (fun k=>(k:Int)) () (by
      intro k hk;unfold a9Q c5o F5;rw [w9 _ k hk,t8 hk,<-F3 h hk];simp only [cond_true,f5s];cases l[k].i7<;>cases (([l[k].a0.b9,l[k].a0.Seq]:List Int)==[q.b9,q.Seq])<;>rfl) (by
      unfold a9Q;rw [z9];rfl)]
  cases l.findIdx? (F5 q)<;>rfl
theorem d3G{l:List m4}(hl:l.length<=40)(he:l.all z5=true){k:Nat}(hk:k<l.length):(q9 l).2[k]?=some (apply (q9 (l.take k)).1 l[k]).2:=by
 have key:∀m,k<m->m<=l.length->(q9 (l.take m)).2[k]?=some (apply (q9 (l.take k)).1 l[k]).2:=by
  intro m;induction m with
  | zero=>omega
  | succ m ih =>
   intro h1 h2;have hlen:=(T3 hl he m (by omega)).2.1;rw [a12 (show m<l.length by omega)];unfold a9j;simp only;by_cases q:k<m
   ·rw [f5O (by omega)];exact ih q (by omega)
   ·have:k=m:=by omega
    subst this;rw [f5I (by omega),hlen];simp
 have:=key l.length hk (f5K _);rwa [f5M] at this
def Q0(l:List m4)(k:Nat):Int:=(q9 l).2[k]?.getD 0
def b0q(l:List m4)(t:m9):Bool:=match l.findIdx? (F5 t.a0) with
 | some k=>(Q0 l k==t.Code)&&((bif t.Code==0 then (match l[k]? with|some e=>e.b8.f0|none=>0) else 0)==t.f0)
 | none=>false
theorem e57{w:m5}(h:U0 w)(hw:C3 w=true):b3H w=some (w.Told.all (b0q (x9 w))):=by
 unfold b3H;rw [a5z h,f5s,hw];obtain ⟨h0,hlo,hok⟩:=c6e h hw;obtain ⟨hl,he⟩:=a0J hok;have hf:s9 w.Told:=h.2.2.2.fits (by decide);have hfl:s9 (x9 w):=hlo.fits (by decide);have hcl:(q9 (x9 w)).2.length=(x9 w).length:=by
  have:=(T3 hl he (x9 w).length (f5K _)).2.1;rwa [f5M] at this
 simp only [f5x,cond_false];rw [c5f h h0,f5s,b5V (okEntries.s hlo) hl he,f5s];rw [K6 w.Told hf (b0q (x9 w)) false ()]
 ·cases w.Told.all (b0q (x9 w))<;>rfl
 ·intro k hk;unfold b5N c1L b0q;rw [w9 _ k hk,t8 hk];simp only [cond_true,f5s,b2T hfl];cases hfi:(x9 w).findIdx? (F5 w.Told[k].a0) with
  | none=>rfl
  | some i =>
   obtain ⟨hi,_⟩:=f6n.1 hfi;simp only;rw [show decide ((i:Int)<0)=false from by simp,t8 (show i<(q9 (x9 w)).2.length by omega),t8 hi,f5t hi];have hco:Q0 (x9 w) i=(q9 (x9 w)).2[i]'(by omega):=by unfold Q0;rw [f5t (by omega)];rfl
   rw [hco];simp only [cond_false,f5s];cases hc:(q9 (x9 w)).2[i]'(by omega)==w.Told[k].Code
   ·rw [show ((q9 (x9 w)).2[i]'(by omega) != w.Told[k].Code)=true from by rw [bne,hc];rfl];rfl
   ·rw [show ((q9 (x9 w)).2[i]'(by omega) != w.Told[k].Code)=false from by rw [bne,hc];rfl];have hcomm:∀x:Int,(w.Told[k].f0==x)=(x==w.Told[k].f0):=fun x=>by
     rw [f6O,beq_iff_eq,beq_iff_eq];exact eq_comm
    cases w.Told[k].Code==0<;>simp only [cond_true,cond_false,f5s,l9.go,bne,f5H,f5x,hcomm]<;>(cases (_:Int)==w.Told[k].f0<;>rfl)
 ·unfold b5N;rw [z9];rfl
theorem c4E{α B R:Type}{body:Int->Option (j9 R Int B)}(l:List α)(hl:s9 l)(ok:α->Bool)(v:R)(b:B)(h1:∀(k:Nat) (h:k<l.length),body (k:Int)=some (bif ok l[k] then .nxt (m7 ((k:Int)+1)) else .ret v))(h2:body (l.length:Int)=some (.brk b)):p7 body 0=some (bif l.all ok then .brk b else .ret v):=by
 have h:=a4Y (body:=body) (fun k=>(k:Int)) l.length (fun k=>match l[k]? with|some x=>ok x|none=>true) (fun _=>v) b
  (fun k hk _=>by
   have:=h1 k hk;rw [F3 hl hk] at this;simpa [f5t hk] using this) (fun _=>h2)
 rcases h with ⟨h,hall⟩|⟨k,hk,ho,_,h⟩
 ·have:l.all ok=true:=by
   rw [List.all_eq_true];intro x hx;obtain ⟨i,hi,rfl⟩:=f6e hx;have:=hall i hi;simpa [f5t hi] using this
  rw [this];exact h
 ·have:l.all ok=false:=by
   rw [f7a];refine ⟨l[k],f5v hk,?_⟩;simpa [f5t hk] using ho
  rw [this];exact h
theorem b2K{l:List q8}(h:l.length<=1000):a3s l=some l:=by
 unfold a3s;cases hl:((l.length:Int)==0)
 ·rw [cond_false,u7 (by constructor<;>omega),u7 (by simp)]
 ·simp only [beq_iff_eq] at hl;have:l=[]:=f5E (by omega);rw [this];rfl
theorem f2q{l:List p6}(h:l.length<=1000):a7L l=some l:=by
 unfold a7L;cases hl:((l.length:Int)==0)
 ·rw [cond_false,u7 (by constructor<;>omega),u7 (by simp)]
 ·simp only [beq_iff_eq] at hl;have:l=[]:=f5E (by omega);rw [this];rfl
def X1(ps:List p6)(b:Int):Option Nat:=ps.findIdx? (·.i5==b)
def atI:Option Nat->Int
 | some k=>(k:Int)
 | none => -1
theorem d45{l:List p6}(h:s9 l)(b:Int):a3p l b=some (atI (X1 l b)):=by
 unfold a3p;rw [show (0:Int)=((0:Nat):Int) from rfl,b6F (body:=fun s:Int=>a1M l b s) (fun k=>(k:Int)) l (·.i5==b) (fun k=>(k:Int)) ()]
 ·unfold X1;cases l.findIdx? (·.i5==b)<;>rfl
 ·intro k hk;unfold a1M;rw [w9 _ k hk,t8 hk,F3 h hk];simp only [cond_true,f5s];cases l[k].i5==b<;>rfl
 ·unfold a1M;rw [z9];rfl
theorem d2t{x:n5}(h:s9 x.b6)(b:Int):b3X x b=some (atI (X1 x.b6 b)):=by
 unfold b3X;rw [show (0:Int)=((0:Nat):Int) from rfl,b6F (body:=fun s:Int=>b3e x b s) (fun k=>(k:Int)) x.b6 (·.i5==b) (fun k=>(k:Int)) ()]
 ·unfold X1;cases x.b6.findIdx? (·.i5==b)<;>rfl
 ·intro k hk;unfold b3e;rw [w9 _ k hk,t8 hk,F3 h hk];simp only [cond_true,f5s];cases x.b6[k].i5==b<;>rfl
 ·unfold b3e;rw [z9];rfl
theorem b6S{ps:List p6}{b:Int}{k:Nat}(h:X1 ps b=some k):k<ps.length:=by
 obtain ⟨hk,_⟩:=f6n.1 h;exact hk
theorem b6G(k:Nat):decide (atI (some k)>=0)=true:=by simp [atI]
theorem b6Z:decide (atI none>=0)=false:=by simp [atI]
theorem e7P{x:n5}(h:s9 x.b5)(b:Int):∃v,b3Q x b=some v/\decide (v<0) = !(J4 x.b5 b):=by
 obtain ⟨v,h1,h2⟩:=f2c h b;refine ⟨v,h1,?_⟩;rw [<-h2];by_cases q:v>=0
 ·have:¬v<0:=by omega
  simp [q,this]
 ·have:v<0:=by omega
  simp [q,this]
def I0(v:Int):Bool:=p9 v (-1000000) 1000000
def K0(regs:List Int)(a:Int):Int:=regs.getD a.toNat 0
theorem L7{regs:List Int}(h:regs.length=4){a:Int}(ha:0<=a/\a<=3):idx regs a=some (K0 regs a):=by
 obtain ⟨k,rfl⟩:=Int.eq_ofNat_of_zero_le ha.1;have hk:k<regs.length:=by omega
 rw [t8 hk];unfold K0;simp [hk]
theorem d8n{regs:List Int}(h:regs.length=4){a v:Int}(ha:0<=a/\a<=3):K0 (regs.set a.toNat v) a=v:=by
 unfold K0;have:a.toNat<regs.length:=by omega
 simp [this]
theorem f3P{regs:List Int}(h:regs.length=4)(hr:regs.all I0=true){a v:Int}(ha:0<=a/\a<=3):(regs.set a.toNat v).all I0=I0 v:=by
 cases hv:I0 v
 ·rw [f7a];exact ⟨v,f5F (i:=a.toNat) (by rw [f6v (by omega)]),by simp [hv]⟩
 ·rw [List.all_eq_true] at hr ⊢;intro x hx;rcases List.mem_or_eq_of_mem_set hx with hx|rfl
  ·exact hr x hx
  ·exact hv
theorem a5i{regs:List Int}(h:regs.length=4)(hr:regs.all I0=true){a:Int}(ha:0<=a/\a<=3):-1000000<=K0 regs a/\K0 regs a<=1000000:=by
 have hi:=L7 h ha;have hm:K0 regs a∈regs:=f5F (b9T hi).2.2;have:=List.all_eq_true.1 hr _ hm;simpa [I0,p9] using this
structure EI(regs:List Int)(rs:List q8)(ps:List p6)(k:Nat):Prop where
 len:regs.length=4
 rng:regs.all I0=true
 rl:rs.length<=k
 pl:ps.length<=k
theorem EI.fr{regs:List Int}{rs:List q8}{ps:List p6}{k:Nat}(h:EI regs rs ps k)(hk:k<=100):s9 rs:=by
 have:=h.rl;unfold s9;omega
theorem EI.fp{regs:List Int}{rs:List q8}{ps:List p6}{k:Nat}(h:EI regs rs ps k)(hk:k<=100):s9 ps:=by
 have:=h.pl;unfold s9;omega
def E4(l:List n7)(i:n8)(regs:List Int)(rs:List q8)(ps:List p6):List Int×List q8×List p6 :=
 bif i.a9==1 then (match X1 ps i.B with
  | some k=>(match ps[k]? with
   | some p=>(regs.set i.A.toNat p.f0,rs,ps)
   | none=>(regs,rs,ps))
  | none=>match l[i.B.toNat]? with
   | some b=>(regs.set i.A.toNat b.f0,bif J4 rs i.B then rs else rs++[⟨i.B,b.j4⟩],ps)
   | none=>(regs,rs,ps))
 else bif i.a9==2 then (regs,rs,match X1 ps i.A with
  | some k=>(match ps[k]? with
   | some p=>ps.set k ⟨p.i5,K0 regs i.B⟩
   | none=>ps)
  | none=>ps++[⟨i.A,K0 regs i.B⟩])
 else bif i.a9==3 then (regs.set i.A.toNat i.N,rs,ps)
 else bif i.a9==4 then (regs.set i.A.toNat (K0 regs i.A+K0 regs i.B),rs,ps)
 else bif i.a9==5 then (regs.set i.A.toNat (K0 regs i.A-K0 regs i.B),rs,ps)
 else (regs,rs,ps)
def V7(l:List n7)(prog:List n8):Nat->Nat->List Int->List q8->List p6->n5
 | 0,_,regs,rs,ps=>⟨rs,ps,K0 regs 0,0⟩
 | f+1,k,regs,rs,ps=>match prog[k]? with
  | none=>⟨rs,ps,K0 regs 0,0⟩
  | some i=>bif i.a9==6 then V7 l prog f (bif decide (K0 regs i.A<K0 regs i.B) then k+i.N.toNat+1 else k+1) regs rs ps
   else bif i.a9==7 then ⟨rs,[],0,1⟩
   else bif (E4 l i regs rs ps).1.all I0 then V7 l prog f (k+1) (E4 l i regs rs ps).1 (E4 l i regs rs ps).2.1 (E4 l i regs rs ps).2.2
   else ⟨(E4 l i regs rs ps).2.1,[],0,2⟩
def C1(l:List n7)(prog:List n8):n5:=bif C8 l&&E1 prog then V7 l prog (prog.length+1) 0 [0,0,0,0] [] [] else ⟨[],[],0,3⟩
section
variable {l:List n7} {regs:List Int} {rs:List q8} {ps:List p6} {k:Nat} {i:n8}
theorem d5K(h:regs.length=4):(E4 l i regs rs ps).1.length=4:=by
 unfold E4;cases i.a9==1<;>cases i.a9==2<;>cases i.a9==3<;>cases i.a9==4<;>cases i.a9==5<;>simp only [cond_true,cond_false,f6M,h]
 all_goals
  split
  ·split<;>simp [h]
  ·split<;>simp [h]
theorem e6r(h:rs.length<=k):(E4 l i regs rs ps).2.1.length<=k+1:=by
 unfold E4;cases i.a9==1<;>cases i.a9==2<;>cases i.a9==3<;>cases i.a9==4<;>cases i.a9==5<;>simp only [cond_true,cond_false]<;>try omega
 all_goals
  split
  ·split<;>(simp only;omega)
  ·split
   ·cases J4 rs i.B<;>simp only [cond_true,cond_false,f5D,f6z]<;>omega
   ·simp only;omega
theorem e54(h:ps.length<=k):(E4 l i regs rs ps).2.2.length<=k+1:=by
 unfold E4;cases i.a9==1<;>cases i.a9==2<;>cases i.a9==3<;>cases i.a9==4<;>cases i.a9==5<;>simp only [cond_true,cond_false]<;>try omega
 all_goals (repeat' split)
 all_goals (try simp only [f6M,f5D,f6z])
 all_goals omega
theorem EI.next(h:EI regs rs ps k)(ha:(E4 l i regs rs ps).1.all I0=true):EI (E4 l i regs rs ps).1 (E4 l i regs rs ps).2.1 (E4 l i regs rs ps).2.2 (k+1) :=
 ⟨d5K h.len,ha,e6r h.rl,e54 h.pl⟩
theorem b7O{x:Int}(h:-1000000<=x/\x<=1000000){y:Int}(h':-1000000<=y/\y<=1000000):m7 (x+y)=x+y/\m7 (x-y)=x-y:=⟨C2 (by omega) (by omega),C2 (by omega) (by omega)⟩
theorem f0Q(hl:C8 l=true)(he:EI regs rs ps k)(hk:k<=100)(hi:R0 i=true)(h6:i.a9≠6)(h7:i.a9≠7) :
  a6z l ⟨rs,ps,0,0⟩ regs i=some (⟨(E4 l i regs rs ps).2.1,(E4 l i regs rs ps).2.2,0,bif (E4 l i regs rs ps).1.all I0 then 0 else 2⟩,(E4 l i regs rs ps).1):=by
 have hfr:=he.fr hk;have hfp:=he.fp hk;have hrl:=he.rl;have hpl:=he.pl;have n1:(rs.length+1)*16<=140737488355328:=by omega
 have n2:(ps.length+1)*16<=140737488355328:=by omega
 have fin:∀(a v:Int) (rs':List q8) (ps':List p6),0<=a/\a<=3->i.a9≠2->i.A=a->a4c i (regs.set a.toNat v) rs' ps' 0 0=some (⟨rs',ps',0,bif (regs.set a.toNat v).all I0 then 0 else 2⟩,regs.set a.toNat v):=by
  intro a v rs' ps' ha h2 hia;unfold a4c a7H;rw [show (i.a9 != 2)=true from by simpa using h2,cond_true,hia,L7 (by simpa using he.len) ha,f5s,a6P,f5s,d8n he.len ha,f3P he.len he.rng ha];unfold I0;cases p9 v (-1000000) 1000000<;>rfl
 unfold a6z E4;rcases a7R hi with ⟨h,ha,hb⟩|⟨h,ha,hb⟩|⟨h,ha,hn⟩|⟨h,ha,hb⟩|⟨h,ha,hb⟩|⟨h,_⟩|⟨h,_⟩
 ·simp only [h,show ((1:Int)==1)=true from rfl,cond_true];unfold b3s b3p;rw [d45 hfp,f5s];cases hp:X1 ps i.B with
  | some j =>
   have hj:=b6S hp;simp only [b6G,cond_true,f5t hj];simp only [atI,t8 hj,f5s,L7 he.len ha,l9.go];exact fin i.A _ rs ps ha (by omega) rfl
  | none =>
   obtain ⟨b,hb1,hb2,_⟩:=a5v hl hb;simp only [b6Z,cond_false,c4n hfr,f5s,hb1,hb2,u7 n1];cases hs:J4 rs i.B
   ·simp only [f5V,cond_true,cond_false,f5s,l9.go,hb1,L7 he.len ha];exact fin i.A _ _ _ ha (by omega) rfl
   ·simp only [f5x,cond_true,cond_false,f5s,l9.go,hb1,L7 he.len ha];exact fin i.A _ _ _ ha (by omega) rfl
 ·simp only [h,show ((2:Int)==1)=false from rfl,show ((2:Int)==2)=true from rfl,cond_true,cond_false,L7 he.len hb,f5s];unfold b3w;rw [d45 hfp,f5s];have fin2:∀ps':List p6,a4c i regs rs ps' 0 0=some (⟨rs,ps',0,bif regs.all I0 then 0 else 2⟩,regs):=by
   intro ps';unfold a4c a7H;rw [he.rng,h];rfl
  cases hp:X1 ps i.A with
  | some j =>
   have hj:=b6S hp;simp only [b6G,cond_true,f5t hj];simp only [atI,t8 hj,f5s,l9.go,f5P];exact fin2 _
  | none =>
   simp only [b6Z,cond_false,u7 n2,f5s,l9.go];exact fin2 _
 ·simp only [h,show ((3:Int)==1)=false from rfl,show ((3:Int)==2)=false from rfl,show ((3:Int)==3)=true from rfl,cond_true,cond_false,L7 he.len ha,f5s,l9.go];exact fin i.A _ _ _ ha (by omega) rfl
 ·simp only [h,show ((4:Int)==1)=false from rfl,show ((4:Int)==2)=false from rfl,show ((4:Int)==3)=false from rfl,show ((4:Int)==4)=true from rfl,cond_true,cond_false,L7 he.len ha,L7 he.len hb,f5s,l9.go,(b7O (a5i he.len he.rng ha) (a5i he.len he.rng hb)).1];exact fin i.A _ _ _ ha (by omega) rfl
 ·simp only [h,show ((5:Int)==1)=false from rfl,show ((5:Int)==2)=false from rfl,show ((5:Int)==3)=false from rfl,show ((5:Int)==4)=false from rfl,show ((5:Int)==5)=true from rfl,cond_true,cond_false,L7 he.len ha,L7 he.len hb,f5s,l9.go,(b7O (a5i he.len he.rng ha) (a5i he.len he.rng hb)).2];exact fin i.A _ _ _ ha (by omega) rfl
 ·exact absurd h h6
 ·exact absurd h h7
theorem e7T(hi:i.a9=7)(ha:i.A=0)(he:EI regs rs ps k):a6z l ⟨rs,ps,0,0⟩ regs i=some (⟨rs,ps,0,1⟩,regs):=by
 have hin:=a5i he.len he.rng (a:=0) (by omega);unfold a6z a4c a7H;simp only [hi,ha,show ((7:Int)==1)=false from rfl,show ((7:Int)==2)=false from rfl,show ((7:Int)==3)=false from rfl,show ((7:Int)==4)=false from rfl,show ((7:Int)==5)=false from rfl,show ((7:Int)==7)=true from rfl,show ((7:Int) != 2)=true from rfl,cond_true,cond_false,f5s,l9.go,L7 he.len (a:=0) (by omega),a6P];rw [show p9 (K0 regs 0) (-1000000) 1000000=true from by simp [p9];exact hin];rfl
theorem d1h(l:List n7){prog:List n8}{f k:Nat}{regs:List Int}{rs:List q8}{ps:List p6}(h:prog.length<=k):V7 l prog f k regs rs ps=⟨rs,ps,K0 regs 0,0⟩:=by
 cases f with
 | zero=>rfl
 | succ f =>
  unfold V7;rw [f5Q h]
theorem c3j{prog:List n8}(hp:E1 prog=true):prog.length<=10/\∀i∈prog,R0 i=true:=by
 unfold E1 at hp;simpa using hp
theorem c59(l:List n7)(prog:List n8)(regs:List Int)(rs:List q8)(ps:List p6)(k c:Int)(hc:(c==0)=false) :
  ((p7 (fun s:(List Int)×(List q8)×(List p6)×Int×Int×Int=>a0Z l prog s.1 s.2.1 s.2.2.1 s.2.2.2.1 s.2.2.2.2.1 s.2.2.2.2.2) (regs,rs,ps,k,0,c)).bind fun x=>x.go (fun r=>some r) fun s=>a57 s.1 s.2.1 s.2.2.1 s.2.2.2.1 s.2.2.2.2)=some ⟨rs,[],0,c⟩:=by
 rw [C9 (b:=(rs,ps,regs,0,c))]
 ·simp only [f5s,l9.go];unfold a57;rw [bne,hc];rfl
 ·unfold a0Z;simp only [hc,cond_false];cases decide (k<(prog.length:Int))<;>rfl
theorem e0U(hl:C8 l=true){prog:List n8}(hp:E1 prog=true):∀(f k:Nat) (regs:List Int) (rs:List q8) (ps:List p6),EI regs rs ps k->prog.length<k+f->k<=prog.length+10->
  ((p7 (fun s:(List Int)×(List q8)×(List p6)×Int×Int×Int=>a0Z l prog s.1 s.2.1 s.2.2.1 s.2.2.2.1 s.2.2.2.2.1 s.2.2.2.2.2) (regs,rs,ps,(k:Int),0,0)).bind fun x=>x.go (fun r=>some r) fun s=>a57 s.1 s.2.1 s.2.2.1 s.2.2.2.1 s.2.2.2.2)=some (V7 l prog f k regs rs ps):=by
 obtain ⟨hlen,hins⟩:=c3j hp;intro f;induction f with
 | zero =>
  intro k regs rs ps he hf hk;rw [C9 (b:=(rs,ps,regs,0,0))]
  ·simp only [f5s,l9.go];unfold a57;rw [show ((0:Int) != 0)=false from rfl,cond_false,L7 he.len (a:=0) (by omega)];rfl
  ·unfold a0Z;rw [show decide ((k:Int)<(prog.length:Int))=false from by simp;omega];rfl
 | succ f ih =>
  intro k regs rs ps he hf hk;by_cases hlt:k<prog.length
  ·have hi:=hins _ (f5v hlt);unfold V7;rw [f5t hlt];simp only;by_cases h6:prog[k].a9=6
   ·obtain ⟨ha,hb,hn⟩:(0<=prog[k].A/\prog[k].A<=3)/\(0<=prog[k].B/\prog[k].B<=3)/\1<=prog[k].N/\prog[k].N<=10:=by
     rcases a7R hi with ⟨h,_⟩|⟨h,_⟩|⟨h,_⟩|⟨h,_⟩|⟨h,_⟩|⟨h,x⟩|⟨h,_⟩
     all_goals first|(exact x)|(exfalso;omega)
    have hb1:a0Z l prog regs rs ps (k:Int) 0 0=some (.nxt (regs,rs,ps,((bif decide (K0 regs prog[k].A<K0 regs prog[k].B) then k+prog[k].N.toNat+1 else k+1:Nat):Int),0,0)):=by
     unfold a0Z b8r;rw [w9 _ k hlt,t8 hlt];simp only [cond_true,f5s,h6,show ((6:Int)==6)=true from rfl,show ((0:Int)==0)=true from rfl,L7 he.len ha,L7 he.len hb];cases decide (K0 regs prog[k].A<K0 regs prog[k].B)
     ·simp only [cond_false,f5s,l9.go];rw [C2 (by omega) (by omega)];rfl
     ·simp only [cond_true,f5s,l9.go];rw [C2 (n:=(k:Int)+prog[k].N) (by omega) (by omega),C2 (by omega) (by omega),show ((k+prog[k].N.toNat+1:Nat):Int)=(k:Int)+prog[k].N+1 from by omega]
    rw [E3 hb1,h6];simp only [show ((6:Int)==6)=true from rfl,cond_true];refine ih _ _ _ _ ⟨he.len,he.rng,?_,?_⟩ ?_ ?_;all_goals
     have h1:=he.rl;have h2:=he.pl;cases decide (K0 regs prog[k].A<K0 regs prog[k].B)<;>simp only [cond_true,cond_false]<;>omega
   by_cases h7:prog[k].a9=7
   ·have ha:prog[k].A=0:=by
     rcases a7R hi with ⟨h,_⟩|⟨h,_⟩|⟨h,_⟩|⟨h,_⟩|⟨h,_⟩|⟨h,_⟩|⟨h,x⟩
     all_goals first|(exact x)|(exfalso;omega)
    have hb1:a0Z l prog regs rs ps (k:Int) 0 0=some (.nxt (regs,rs,ps,m7 ((k:Int)+1),0,1)):=by
     unfold a0Z;rw [w9 _ k hlt,t8 hlt];simp only [cond_true,f5s,show ((0:Int)==0)=true from rfl,e7T h7 ha he,h7,show ((7:Int)==6)=false from rfl,cond_false];rw [u7 trivial]
    rw [E3 hb1,c59 _ _ _ _ _ _ _ rfl,h7];rfl
   ·have hs:=f0Q hl he (by omega) hi h6 h7;have hb1:a0Z l prog regs rs ps (k:Int) 0 0=some (.nxt ((E4 l prog[k] regs rs ps).1,(E4 l prog[k] regs rs ps).2.1,(E4 l prog[k] regs rs ps).2.2,((k+1:Nat):Int),0,bif (E4 l prog[k] regs rs ps).1.all I0 then 0 else 2)):=by
     unfold a0Z;rw [w9 _ k hlt,t8 hlt];simp only [cond_true,f5s,show ((0:Int)==0)=true from rfl,hs,show (prog[k].a9==6)=false from by simpa using h6,cond_false];rw [u7 (by rw [d5K he.len];exact he.len),C2 (by omega) (by omega)];rfl
    rw [E3 hb1,show (prog[k].a9==6)=false from by simpa using h6,show (prog[k].a9==7)=false from by simpa using h7,cond_false,cond_false];cases hall:(E4 l prog[k] regs rs ps).1.all I0
    ·rw [cond_false,cond_false,c59 _ _ _ _ _ _ _ rfl]
    ·rw [cond_true,cond_true];exact ih _ _ _ _ (he.next hall) (by omega) (by omega)
  ·rw [d1h l (by omega),C9 (b:=(rs,ps,regs,0,0))]
   ·simp only [f5s,l9.go];unfold a57;rw [show ((0:Int) != 0)=false from rfl,cond_false,L7 he.len (a:=0) (by omega)];rfl
   ·unfold a0Z;rw [show decide ((k:Int)<(prog.length:Int))=false from by simp;omega];rfl
theorem ei0:EI [0,0,0,0] [] [] 0:=⟨rfl,by decide,by simp,by simp⟩
theorem d1d{l:List n7}{prog:List n8}(hl:s9 l)(hp:s9 prog):b06 l prog=some (C1 l prog):=by
 unfold b06 C1;rw [c3O hl,f5s,b6T hp,f5s];cases hb:C8 l
 ·rfl
 cases ho:E1 prog
 ·rfl
 rw [f5x,cond_false,cond_false,u7 (by decide)];have:=e0U hb ho (prog.length+1) 0 [0,0,0,0] [] [] ei0 (by omega) (by omega);exact this
theorem f0J{regs:List Int}{Reads1:List q8}{ins:n8}{put1:p6}(h:regs.length=4)(hr:Reads1.length<=1000):p7 (fun s:Int=>b2u regs Reads1 ins put1 s) 0=some (bif (regs.set ins.A.toNat put1.f0).all I0 then .brk () else .ret ⟨Reads1,[],0,2⟩):=by
 have hl:(regs.set ins.A.toNat put1.f0).length=4:=by simpa using h
 refine c4E (regs.set ins.A.toNat put1.f0) (by unfold s9;omega) I0 _ () (fun k hk => ?_) ?_
 ·have hk4:(k:Int)<4:=by omega
  unfold b2u;rw [decide_eq_true hk4,t8 hk,cond_true,f5s,u7 hk4,N2,f5s,b2K hr];unfold I0;cases p9 (regs.set ins.A.toNat put1.f0)[k] (-1000000) 1000000<;>rfl
 ·unfold b2u;rw [hl];rfl
theorem c6X{regs:List Int}{Reads1:List q8}{ins:n8}{box:n7}(h:regs.length=4)(hr:Reads1.length<=1000):p7 (fun s:Int=>b2R regs ins Reads1 box s) 0=some (bif (regs.set ins.A.toNat box.f0).all I0 then .brk () else .ret ⟨Reads1,[],0,2⟩):=by
 have hl:(regs.set ins.A.toNat box.f0).length=4:=by simpa using h
 refine c4E (regs.set ins.A.toNat box.f0) (by unfold s9;omega) I0 _ () (fun k hk => ?_) ?_
 ·have hk4:(k:Int)<4:=by omega
  unfold b2R;rw [decide_eq_true hk4,t8 hk,cond_true,f5s,u7 hk4,N2,f5s,b2K hr];unfold I0;cases p9 (regs.set ins.A.toNat box.f0)[k] (-1000000) 1000000<;>rfl
 ·unfold b2R;rw [hl];rfl
theorem c4o{regs:List Int}{Reads1:List q8}(h:regs.length=4)(hr:Reads1.length<=1000):p7 (fun s:Int=>b1B Reads1 regs s) 0=some (bif regs.all I0 then .brk () else .ret ⟨Reads1,[],0,2⟩):=by
 refine c4E regs (by unfold s9;omega) I0 _ () (fun k hk => ?_) ?_
 ·have hk4:(k:Int)<4:=by omega
  unfold b1B;rw [decide_eq_true hk4,t8 hk,cond_true,f5s,u7 hk4,N2,f5s,b2K hr];unfold I0;cases p9 regs[k] (-1000000) 1000000<;>rfl
 ·unfold b1B;rw [h];rfl
theorem e1R(hl:C8 l=true)(he:EI regs rs ps k)(hk:k<=100){prog:List n8}(hkl:k<prog.length)(hpl:prog.length<=10)(R:List q8)(P:List p6)(hi:R0 prog[k]=true)(h6:prog[k].a9≠6)(h7:prog[k].a9≠7) :
  a3G l prog regs R P rs ps (k:Int)=some (bif (E4 l prog[k] regs rs ps).1.all I0 then .nxt ((E4 l prog[k] regs rs ps).1,R,P,(E4 l prog[k] regs rs ps).2.1,(E4 l prog[k] regs rs ps).2.2,((k+1:Nat):Int)) else .ret ⟨(E4 l prog[k] regs rs ps).2.1,[],0,2⟩):=by
 have hfr:=he.fr hk;have hfp:=he.fp hk;have hrl:=he.rl;have hpl:=he.pl;have n1:(rs.length+1)*16<=140737488355328:=by omega
 have n2:(ps.length+1)*16<=140737488355328:=by omega
 have hw:m7 ((k:Int)+1)=((k+1:Nat):Int):=by rw [C2 (by omega) (by omega)];rfl
 have fin:∀(regs':List Int) (ps':List p6),regs'.length=4->a9o R P rs regs' ps' (k:Int)=some (bif regs'.all I0 then .nxt (regs',R,P,rs,ps',((k+1:Nat):Int)) else .ret ⟨rs,[],0,2⟩):=by
  intro regs' ps' h;unfold a9o b3b;rw [c4o h (by omega),hw];cases regs'.all I0<;>rfl
 have hset:∀(a:Nat) (v:Int),(regs.set a v).length=4:=fun a v=>by simpa using he.len
 unfold a3G E4;generalize hin:prog[k]=i at hi h6 h7;rw [w9 _ k hkl,t8 hkl,hin,cond_true,f5s];rcases a7R hi with ⟨h,ha,hb⟩|⟨h,ha,hb⟩|⟨h,ha,hn⟩|⟨h,ha,hb⟩|⟨h,ha,hb⟩|⟨h,_⟩|⟨h,_⟩
 ·have na:i.A<4:=by omega
  simp only [h,show ((1:Int)==1)=true from rfl,cond_true];rw [d2t (x:=⟨rs,ps,0,0⟩) hfp,f5s];simp only;cases hp:X1 ps i.B with
  | some j =>
   have hj:=b6S hp;simp only [b6G,cond_true,f5t hj];simp only [atI,t8 hj,f5s,L7 he.len ha];rw [u7 na,f0J he.len (by omega)];unfold c0w;rw [hw];cases (regs.set i.A.toNat ps[j].f0).all I0<;>rfl
  | none =>
   obtain ⟨b,hb1,hb2,_⟩:=a5v hl hb;obtain ⟨v,hv1,hv2⟩:=e7P (x:=⟨rs,ps,0,0⟩) hfr i.B;simp only [b6Z,cond_false,hv1,hv2,f5s,hb1,hb2,u7 n1];cases hs:J4 rs i.B
   ·simp only [f5V,cond_true,cond_false,f5s,l9.go];unfold b9L b48;rw [hb1,f5s,L7 he.len ha,f5s,u7 na,c6X he.len (by simp;omega),hw];cases (regs.set i.A.toNat b.f0).all I0<;>rfl
   ·simp only [f5x,cond_true,cond_false,f5s,l9.go];unfold b9L b48;rw [hb1,f5s,L7 he.len ha,f5s,u7 na,c6X he.len (by omega),hw];cases (regs.set i.A.toNat b.f0).all I0<;>rfl
 ·have nb:i.B<4:=by omega
  simp only [h,show ((2:Int)==1)=false from rfl,show ((2:Int)==2)=true from rfl,cond_true,cond_false];rw [d2t (x:=⟨rs,ps,0,0⟩) hfp,f5s];simp only;cases hp:X1 ps i.A with
  | some j =>
   have hj:=b6S hp;simp only [b6G,cond_true,f5t hj];simp only [atI,t8 hj,f5s,L7 he.len hb,f5P];rw [u7 nb];simp only [f5s,l9.go];exact fin _ _ he.len
  | none =>
   simp only [b6Z,cond_false,f5s,L7 he.len hb];rw [u7 nb,u7 n2];simp only [f5s,l9.go];exact fin _ _ he.len
 ·have na:i.A<4:=by omega
  simp only [h,show ((3:Int)==1)=false from rfl,show ((3:Int)==2)=false from rfl,show ((3:Int)==3)=true from rfl,cond_true,cond_false,L7 he.len ha,f5s];rw [u7 na];simp only [f5s,l9.go];exact fin _ _ (hset _ _)
 ·have na:i.A<4:=by omega
  have nb:i.B<4:=by omega
  simp only [h,show ((4:Int)==1)=false from rfl,show ((4:Int)==2)=false from rfl,show ((4:Int)==3)=false from rfl,show ((4:Int)==4)=true from rfl,cond_true,cond_false,L7 he.len ha,L7 he.len hb,f5s,(b7O (a5i he.len he.rng ha) (a5i he.len he.rng hb)).1,u7 na,u7 nb,l9.go];exact fin _ _ (hset _ _)
 ·have na:i.A<4:=by omega
  have nb:i.B<4:=by omega
  simp only [h,show ((5:Int)==1)=false from rfl,show ((5:Int)==2)=false from rfl,show ((5:Int)==3)=false from rfl,show ((5:Int)==4)=false from rfl,show ((5:Int)==5)=true from rfl,cond_true,cond_false,L7 he.len ha,L7 he.len hb,f5s,(b7O (a5i he.len he.rng ha) (a5i he.len he.rng hb)).2,u7 na,u7 nb,l9.go];exact fin _ _ (hset _ _)
 ·exact absurd h h6
 ·exact absurd h h7
theorem f1Q(hl:C8 l=true){prog:List n8}(hp:E1 prog=true)(R:List q8)(P:List p6):∀(f k:Nat) (regs:List Int) (rs:List q8) (ps:List p6),EI regs rs ps k->prog.length<k+f->k<=prog.length+10->
  ((p7 (fun s:(List Int)×(List q8)×(List p6)×(List q8)×(List p6)×Int=>a3G l prog s.1 s.2.1 s.2.2.1 s.2.2.2.1 s.2.2.2.2.1 s.2.2.2.2.2) (regs,R,P,rs,ps,(k:Int))).bind fun x=>x.go (fun r=>some r) fun s=>b1v s.1 s.2.1 s.2.2.1 s.2.2.2.1 s.2.2.2.2)=some (V7 l prog f k regs rs ps):=by
 obtain ⟨hlen,hins⟩:=c3j hp;have stop:∀(k:Nat) (regs:List Int) (rs:List q8) (ps:List p6),EI regs rs ps k->prog.length<=k->k<=prog.length+10->((p7 (fun s:(List Int)×(List q8)×(List p6)×(List q8)×(List p6)×Int=>a3G l prog s.1 s.2.1 s.2.2.1 s.2.2.2.1 s.2.2.2.2.1 s.2.2.2.2.2) (regs,R,P,rs,ps,(k:Int))).bind fun x=>x.go (fun r=>some r) fun s=>b1v s.1 s.2.1 s.2.2.1 s.2.2.2.1 s.2.2.2.2)=some ⟨rs,ps,K0 regs 0,0⟩:=by
  intro k regs rs ps he h1 h2;have h3:=he.rl;have h4:=he.pl;rw [C9 (b:=(R,P,regs,rs,ps))]
  ·simp only [f5s,l9.go];unfold b1v;rw [b2K (by omega),f5s,f2q (by omega),f5s,L7 he.len (a:=0) (by omega),f5s,u7 (by decide)]
  ·unfold a3G;rw [show decide ((k:Int)<(prog.length:Int))=false from by simp;omega];rfl
 intro f;induction f with
 | zero =>
  intro k regs rs ps he hf hk;exact stop k regs rs ps he (by omega) hk
 | succ f ih =>
  intro k regs rs ps he hf hk;by_cases hlt:k<prog.length
  ·have hi:=hins _ (f5v hlt);unfold V7;rw [f5t hlt];simp only;by_cases h6:prog[k].a9=6
   ·obtain ⟨ha,hb,hn⟩:(0<=prog[k].A/\prog[k].A<=3)/\(0<=prog[k].B/\prog[k].B<=3)/\1<=prog[k].N/\prog[k].N<=10:=by
     rcases a7R hi with ⟨h,_⟩|⟨h,_⟩|⟨h,_⟩|⟨h,_⟩|⟨h,_⟩|⟨h,x⟩|⟨h,_⟩
     all_goals first|(exact x)|(exfalso;omega)
    have hrl:=he.rl;have hb1:a3G l prog regs R P rs ps (k:Int)=some (.nxt (regs,R,P,rs,ps,((bif decide (K0 regs prog[k].A<K0 regs prog[k].B) then k+prog[k].N.toNat+1 else k+1:Nat):Int))):=by
     have na:prog[k].A<4:=by omega
     have nb:prog[k].B<4:=by omega
     unfold a3G;rw [w9 _ k hlt,t8 hlt];simp only [cond_true,f5s,h6,show ((6:Int)==1)=false from rfl,show ((6:Int)==2)=false from rfl,show ((6:Int)==3)=false from rfl,show ((6:Int)==4)=false from rfl,show ((6:Int)==5)=false from rfl,show ((6:Int)==6)=true from rfl,cond_false,L7 he.len ha,L7 he.len hb,u7 na,u7 nb];cases decide (K0 regs prog[k].A<K0 regs prog[k].B)
     ·simp only [cond_false,f5s,l9.go];unfold a9o b3b;rw [c4o he.len (by omega),he.rng,C2 (by omega) (by omega)];rfl
     ·simp only [cond_true,f5s,l9.go];unfold a9o b3b;rw [c4o he.len (by omega),he.rng,C2 (n:=(k:Int)+prog[k].N) (by omega) (by omega),C2 (by omega) (by omega),show ((k+prog[k].N.toNat+1:Nat):Int)=(k:Int)+prog[k].N+1 from by omega];rfl
    rw [E3 hb1,h6];simp only [show ((6:Int)==6)=true from rfl,cond_true];refine ih _ _ _ _ ⟨he.len,he.rng,?_,?_⟩ ?_ ?_;all_goals
     have h1:=he.rl;have h2:=he.pl;cases decide (K0 regs prog[k].A<K0 regs prog[k].B)<;>simp only [cond_true,cond_false]<;>omega
   by_cases h7:prog[k].a9=7
   ·have hrl:=he.rl;have hb1:a3G l prog regs R P rs ps (k:Int)=some (.ret ⟨rs,[],0,1⟩):=by
     unfold a3G;rw [w9 _ k hlt,t8 hlt];simp only [cond_true,f5s,h7,show ((7:Int)==1)=false from rfl,show ((7:Int)==2)=false from rfl,show ((7:Int)==3)=false from rfl,show ((7:Int)==4)=false from rfl,show ((7:Int)==5)=false from rfl,show ((7:Int)==6)=false from rfl,show ((7:Int)==7)=true from rfl,cond_false];rw [b2K (by omega)];rfl
    rw [Y0 hb1,h7];rfl
   ·have hb1:=e1R hl he (by omega) hlt hlen R P hi h6 h7;rw [show (prog[k].a9==6)=false from by simpa using h6,show (prog[k].a9==7)=false from by simpa using h7,cond_false,cond_false];cases hall:(E4 l prog[k] regs rs ps).1.all I0
    ·rw [hall,cond_false] at hb1;rw [Y0 hb1];rfl
    ·rw [hall,cond_true] at hb1;rw [E3 hb1,cond_true];exact ih _ _ _ _ (he.next hall) (by omega) (by omega)
  ·rw [d1h l (by omega)];exact stop k regs rs ps he (by omega) hk
theorem d6x{l:List n7}{prog:List n8}(hl:s9 l)(hp:s9 prog):b3T l prog=some (C1 l prog):=by
 unfold b3T C1;rw [b2M hl,f5s,c0a hp,f5s];cases hb:C8 l
 ·rfl
 cases ho:E1 prog
 ·rfl
 rw [f5x,cond_false,cond_false];exact f1Q hb ho [] [] (prog.length+1) 0 [0,0,0,0] [] [] ei0 (by omega) (by omega)
end
theorem d48{l:List m4}(hl:l.length<=40)(he:l.all z5=true){k:Nat}(hk:k<=l.length):(told l (q9 l).2 k).length<=40:=by
 obtain ⟨_,hlen,hc⟩:=T3 hl he l.length (f5K _);rw [f5M] at hlen hc;have h1:=b5v hlen k hk;have h2:=c5E ((q9 l).2.take k) 0;rw [f5L] at h2;omega
theorem e8B(l:List m4):s9 (C0 l):=by
 unfold C0;cases hok:G6 l
 ·simp [s9]
 ·obtain ⟨hl,he⟩:=a0J hok;have:=d48 hl he (f5K _);show s9 (told l (q9 l).2 l.length)
  unfold s9;omega
def N8(l:List n7)(p:List n8):List n7×Int×Int:=bif (C1 l p).Code==3 then ([],0,3) else (a0F l (C1 l p).b6,(C1 l p).f0,(C1 l p).Code)
theorem c3I{l:List n7}{p:List n8}(hl:C8 l=true)(hp:s9 p):Ran (C1 l p):=by
 obtain ⟨r,h1,h2,_⟩:=d7L (a3D hl) hp;rw [d1d (a3D hl) hp] at h1;injection h1 with h1;rw [h1];exact h2 hl
theorem Ran.f{r:n5}(h:Ran r):a15 r:=by
 have h1:=h.rlen;have h2:=h.plen;exact ⟨⟨by omega,fun _ _=>trivial⟩,⟨by omega,fun _ _=>trivial⟩,trivial⟩
theorem Ran.puts{r:n5}(h:Ran r):∀p∈r.b6,a0h p:=by
 have:=h.ok;rw [b0b] at this;simp only [f5w] at this;exact (b00.1 this.2.2.2.2.2).1
theorem e4s{l:List n7}{p:List n8}(hl:C8 l=false):(C1 l p).Code=3:=by
 unfold C1;rw [hl];rfl
theorem e3q{l:List n7}{p:List n8}(hl:s9 l)(hp:s9 p):b7a l p=some (N8 l p):=by
 unfold b7a N8;rw [d6x hl hp,f5s];cases hc:(C1 l p).Code==3
 ·have hb:C8 l=true:=by
   cases hb:C8 l
   ·rw [e4s hb] at hc;cases hc
   ·rfl
  have hr:=c3I hb hp;simp only [cond_false,f5s,c9Z hb hr.f hr.ok]
 ·rfl
theorem d3x{l:List n7}{p:List n8}(hl:C8 l=true)(hp:s9 p)(h:((N8 l p).2.2==3)=false):C8 (N8 l p).1=true:=by
 have hr:=c3I hl hp;unfold N8 at h ⊢;cases hc:(C1 l p).Code==3
 ·rw [cond_false];exact b8v hl hr.puts
 ·rw [hc,cond_true] at h;cases h
def a3i:List (List n8)->List n7->List Int->List n7×List Int
 | [],b,vs=>(b,vs)
 | p::ps,b,vs=>bif (N8 b p).2.2==3 then ([],[]) else a3i ps (N8 b p).1 (vs++[(N8 b p).2.1])
def N9(l:List n7)(progs:List (List n8)):List n7×List Int:=bif C8 l&&decide (progs.length<=100) then a3i progs l [] else ([],[])
theorem e7U{l:List Int}(h:l.length<=1000):b82 l=some l:=by
 unfold b82;cases hl:((l.length:Int)==0)
 ·rw [cond_false,u7 (by constructor<;>omega),u7 (by simp)]
 ·simp only [beq_iff_eq] at hl;have:l=[]:=f5E (by omega);rw [this];rfl
theorem e2f{progs:List (List n8)}(hp:∀p∈progs,s9 p)(hn:progs.length<=100):∀(m k:Nat) (b:List n7) (vs:List Int),k+m=progs.length->C8 b=true->vs.length=k->
  ((p7 (fun s:(List Int)×Int×List n7=>a92 progs s.1 s.2.1 s.2.2) (vs,(k:Int),b)).bind fun x=>x.go (fun r=>some r) fun s=>b9v s.1 s.2)=some (a3i (progs.drop k) b vs):=by
 intro m;induction m with
 | zero =>
  intro k b vs hk hb hv;have:k=progs.length:=by omega
  subst this;rw [List.drop_length,C9 (b:=(vs,b))]
  ·simp only [f5s,l9.go];unfold b9v;rw [e7U (by omega)];rfl
  ·unfold a92;simp only [z9];rfl
 | succ m ih =>
  intro k b vs hk hb hv;have hlt:k<progs.length:=by omega
  have hpk:=hp _ (f5v hlt);have n1:(vs.length+1)*8<=140737488355328:=by omega
  have hw:m7 ((k:Int)+1)=((k+1:Nat):Int):=by rw [C2 (by omega) (by omega)];rfl
  have hb1:a92 progs vs (k:Int) b=some (bif (N8 b progs[k]).2.2==3 then .ret ([],[]) else .nxt (vs++[(N8 b progs[k]).2.1],((k+1:Nat):Int),(N8 b progs[k]).1)):=by
   unfold a92;simp only [w9 _ k hlt,t8 hlt,cond_true,f5s,e3q (a3D hb) hpk,u7 n1,hw];cases (N8 b progs[k]).2.2==3<;>rfl
  rw [f5U hlt];unfold a3i;cases hc:(N8 b progs[k]).2.2==3
  ·rw [hc,cond_false] at hb1;rw [E3 hb1,cond_false];exact ih (k+1) _ _ (by omega) (d3x hb hpk hc) (by simp;omega)
  ·rw [hc,cond_true] at hb1;rw [Y0 hb1];rfl
theorem f0K{l:List n7}{progs:List (List n8)}(hl:s9 l)(hp:∀p∈progs,s9 p):b8A l progs=some (N9 l progs):=by
 unfold b8A N9;rw [b2M hl,f5s];cases hb:C8 l
 ·rfl
 rw [f5x,cond_false,f5H];by_cases hn:progs.length<=100
 ·have h1:¬((progs.length:Int)>100):=by omega
  rw [decide_eq_false h1,cond_false,decide_eq_true hn,cond_true,c0r (by rw [a7m hb];decide),f5s];have:=e2f hp hn progs.length 0 l [] (by omega) hb rfl;rwa [f6H] at this
 ·have h1:(progs.length:Int)>100:=by omega
  rw [decide_eq_true h1,decide_eq_false hn];rfl
def b8s(w:m5)(q:n9):Option x7:=w.d8.find? fun a=>(([a.a0.b9,a.a0.Seq]:List Int)==[q.b9,q.Seq])
def a0a(w:m5)(q:n9):List n8×Bool:=match b8s w q with
 | some a=>(a.i6,true)
 | none=>([],false)
theorem d61{l:List n8}(h:l.length*32<=140737488351232):a79 l=some l:=by
 unfold a79;cases hl:((l.length:Int)==0)
 ·rw [cond_false,u7 (by constructor<;>omega),u7 (by simp)]
 ·simp only [beq_iff_eq] at hl;have:l=[]:=f5E (by omega);rw [this];rfl
theorem d0l{w:m5}(h:U0 w){a:x7}(ha:a∈w.d8):a.i6.length*32<=140737488351232:=(h.2.2.1.2 a ha).2.1
theorem f0B{w:m5}(h:U0 w)(q:n9):b6r w q=some (a0a w q):=by
 have hf:s9 w.d8:=h.2.2.1.fits (by decide);unfold b6r a0a b8s;rw [b7q w.d8 hf (fun a=>(([a.a0.b9,a.a0.Seq]:List Int)==[q.b9,q.Seq])) (fun a=>(a.i6,true)) ()]
 ·cases w.d8.find? (fun a=>(([a.a0.b9,a.a0.Seq]:List Int)==[q.b9,q.Seq]))<;>rfl
 ·intro k hk;have:=d0l h (f5v hk);unfold b6b;rw [w9 _ k hk,t8 hk];simp only [cond_true,f5s,d61 this];cases (([w.d8[k].a0.b9,w.d8[k].a0.Seq]:List Int)==[q.b9,q.Seq])<;>rfl
 ·unfold b6b;rw [z9];rfl
theorem d6Q{w:m5}(h:U0 w)(q:n9):s9 (a0a w q).1:=by
 unfold a0a b8s;cases hf:w.d8.find? (fun a=>(([a.a0.b9,a.a0.Seq]:List Int)==[q.b9,q.Seq])) with
 | none=>simp [s9]
 | some a =>
  have:=d0l h (f7G hf);show a.i6.length<=_
  omega
def a4i(w:m5):List n9->List (List n8)->Option (List (List n8))
 | [],o=>some o
 | q::qs,o=>bif (a0a w q).2 then a4i w qs (o++[(a0a w q).1]) else none
theorem c8K{w:m5}(h:U0 w):∀{qs:List n9} {o ps:List (List n8)},a4i w qs o=some ps->(∀p∈o,s9 p)->∀p∈ps,s9 p
 | [],o,ps,hs,ho=>by
  injection hs with hs;subst hs;exact ho
 | q::qs,o,ps,hs,ho=>by
  unfold a4i at hs;cases hq:(a0a w q).2
  ·rw [hq] at hs;cases hs
  ·rw [hq,cond_true] at hs;refine c8K h hs fun p hp => ?_
   rcases List.mem_append.1 hp with hp|hp
   ·exact ho p hp
   ·rw [f5y.1 hp];exact d6Q h q
def b0V(a b:List n7):Bool:=(a.length==b.length)&&(f5A a.length).all fun k=>match a[k]?,b[k]? with
 | some x,some y=>(([x.j4,x.f0]:List Int)==[y.j4,y.f0])
 | _,_=>false
theorem e5r{a b:List n7}(h:s9 a):b8H a b=some (b0V a b):=by
 unfold b8H c1c b0V;rw [b9p];cases hl:a.length==b.length
 ·rfl
 have hl:a.length=b.length:=by simpa using hl
 rw [f5x,cond_false,f5H,a2H a h (fun k=>match a[k]?,b[k]? with|some x,some y=>(([x.j4,x.f0]:List Int)==[y.j4,y.f0])|_,_=>false) false ()]
 ·cases (f5A a.length).all _<;>rfl
 ·intro k hk _;unfold b7D;rw [w9 _ k hk,t8 hk,t8 (hl▸hk),f5t hk,f5t (hl▸hk)];simp only [cond_true,f5s];cases (([a[k].j4,a[k].f0]:List Int)==[(b[k]'(hl▸hk)).j4,(b[k]'(hl▸hk)).f0])<;>rfl
 ·unfold b7D;rw [z9];rfl
theorem f2R{s:u6}{e:m4}(h:e.i7=true):(apply s e).2=5:=by
 unfold apply;rw [h];rfl
theorem d1E{l:List m4}(hl:l.length<=40)(he:l.all z5=true):∀k,k<=l.length->∀q∈told l (q9 l).2 k,∃e∈l,F5 q e=true
 | 0,_,q,hq=>by cases hq
 | k+1,hk,q,hq=>by
  have h1:k<l.length:=by omega
  have hlen:=(T3 hl he l.length (f5K _)).2.1;rw [f5M] at hlen;have h2:k<(q9 l).2.length:=by omega
  unfold told at hq;rcases List.mem_append.1 hq with hq|hq
  ·exact d1E hl he k (by omega) q hq
  ·rw [b7F h1 h2] at hq;cases hc:(q9 l).2[k]==0
   ·rw [hc] at hq;cases hq
   ·rw [hc,cond_true,f5y] at hq;refine ⟨l[k],f5v h1,?_⟩;have hco:=b2b hl he h1;rw [f5t h2] at hco;have hco:=f6w hco;rw [hq];unfold F5;cases hn:l[k].i7
    ·simp
    ·rw [f2R hn] at hco;rw [hco] at hc;cases hc
theorem e74{l:List m4}{q:n9}(hq:q∈C0 l):∃i,∃h:i<l.length,l.findIdx? (F5 q)=some i:=by
 unfold C0 at hq;cases hok:G6 l
 ·rw [hok] at hq;cases hq
 ·rw [hok,cond_true] at hq;obtain ⟨hl,he⟩:=a0J hok;obtain ⟨e,h1,h2⟩:=d1E hl he _ (f5K _) q hq;cases hf:l.findIdx? (F5 q) with
  | none =>
   have:=(f7F.1 hf) e h1;rw [h2] at this;cases this
  | some i=>exact ⟨i,(f6n.1 hf).1,rfl⟩
def T8(l:List m4)(q:n9):Int:=match l.findIdx? (F5 q) with
 | some k=>(match l[k]? with|some e=>e.b8.f0|none=>0)
 | none=>0
def c27(l:List m4)(done:List n9)(vals:List Int):Bool:=(f5A done.length).all fun i=>match vals[i]?,done[i]? with
 | some v,some q=>v==T8 l q
 | _,_=>false
def a1v:List n7:=f5u 4 ⟨0,0⟩
def c5y(l:List m4)(ps:List (List n8)):Bool :=
 ((N9 a1v ps).2.length==(C0 l).length)&&(b0V (N9 a1v ps).1 (q9 l).1.g8&&c27 l (C0 l) (N9 a1v ps).2)
def a7t(w:m5):Bool:=C3 w&&match a4i w (C0 (x9 w)) [] with
 | some ps=>c5y (x9 w) ps
 | none=>false
theorem c3M:C8 a1v=true:=by decide
theorem c9G:∀{ps:List (List n8)} {b:List n7} {vs:List Int},C8 b=true->(∀p∈ps,s9 p)->s9 (a3i ps b vs).1
 | [],b,vs,hb,_=>a3D hb
 | p::ps,b,vs,hb,hp=>by
  unfold a3i;cases hc:(N8 b p).2.2==3
  ·rw [cond_false];exact c9G (d3x hb (hp p (by simp)) hc) fun q hq=>hp q (by simp [hq])
  ·simp [s9]
theorem e68{ps:List (List n8)}(hp:∀p∈ps,s9 p):s9 (N9 a1v ps).1:=by
 unfold N9;cases (C8 a1v&&decide (ps.length<=100))
 ·simp [s9]
 ·exact c9G c3M hp
theorem e78{w:m5}(h:U0 w){lg:List m4}{l:List n9}(hl:l.length<=1000):∀(m k:Nat) (o:List (List n8)),k+m=l.length->o.length=k->
  ((p7 (fun s:(List (List n8))×Int=>a5P w l s.1 s.2) (o,(k:Int))).bind fun x=>x.go (fun r=>some r) fun s=>b4p lg l s)=(match a4i w (l.drop k) o with|some ps=>b4p lg l ps|none=>some false):=by
 intro m;induction m with
 | zero =>
  intro k o hk ho;have:k=l.length:=by omega
  subst this;rw [List.drop_length,C9 (b:=o)]
  ·rfl
  ·unfold a5P;simp only [z9];rfl
 | succ m ih =>
  intro k o hk ho;have hlt:k<l.length:=by omega
  have n1:(o.length+1)*24<=140737488355328:=by omega
  have hw:m7 ((k:Int)+1)=((k+1:Nat):Int):=by rw [C2 (by omega) (by omega)];rfl
  have hb1:a5P w l o (k:Int)=some (bif (a0a w l[k]).2 then .nxt (o++[(a0a w l[k]).1],((k+1:Nat):Int)) else .ret false):=by
   unfold a5P;simp only [w9 _ k hlt,t8 hlt,cond_true,f5s,f0B h,u7 n1,hw];cases (a0a w l[k]).2<;>rfl
  rw [f5U hlt];unfold a4i;cases hc:(a0a w l[k]).2
  ·rw [hc,cond_false] at hb1;rw [Y0 hb1];rfl
  ·rw [hc,cond_true] at hb1;rw [E3 hb1,cond_true];exact ih (k+1) _ (by omega) (by simp;omega)
theorem f4O:b24=some a1v:=rfl
theorem d70{w:m5}(h:U0 w):b69 w=some (a7t w):=by
 unfold b69 a7t;rw [a5z h,f5s];cases hw:C3 w
 ·rfl
 obtain ⟨h0,hlo,hok⟩:=c6e h hw;have hi:=c5f h h0;obtain ⟨hl,he⟩:=a0J hok;have hf:=okEntries.f hlo;have hfl:s9 (x9 w):=hlo.fits (by decide);have hd:(C0 (x9 w)).length<=40:=by
  unfold C0;rw [hok];exact d48 hl he (f5K _)
 have hdf:s9 (C0 (x9 w)):=e8B _;simp only [f5x,cond_false,hi,f5s,e8t hf,f5H];have hpg:=e78 h (lg:=x9 w) (l:=C0 (x9 w)) (by omega) (C0 (x9 w)).length 0 [] (by omega) rfl;rw [f6H] at hpg;rw [show p7 (fun s:(List (List n8))×Int=>a5P w (C0 (x9 w)) s.1 s.2) ([],0)=p7 (fun s:(List (List n8))×Int=>a5P w (C0 (x9 w)) s.1 s.2) ([],((0:Nat):Int)) from rfl,hpg];cases hps:a4i w (C0 (x9 w)) [] with
 | none=>rfl
 | some ps =>
  have hpf:=c8K h hps (by simp);simp only;unfold b4p;simp only [f4O,f5s,f0K (a3D c3M) hpf,d2n hf,hok,cond_true,e5r (e68 hpf),b9p];unfold c5y;cases b0V (N9 a1v ps).1 (q9 (x9 w)).1.g8
  ·simp
  cases hle:(N9 a1v ps).2.length==(C0 (x9 w)).length
  ·rfl
  have hle:(N9 a1v ps).2.length=(C0 (x9 w)).length:=by simpa using hle
  simp only [f5x,cond_false,f5H];unfold c27;rw [a2H (C0 (x9 w)) hdf (fun i=>match (N9 a1v ps).2[i]?,(C0 (x9 w))[i]? with|some v,some q=>v==T8 (x9 w) q|_,_=>false) false ()]
  ·cases (f5A (C0 (x9 w)).length).all _<;>rfl
  ·intro k hk _;obtain ⟨i,hi,hfi⟩:=e74 (f5v hk);unfold b47 T8;rw [w9 _ k hk,t8 hk,t8 (hle▸hk),f5t hk,f5t (hle▸hk)];simp only [cond_true,f5s,b2T hfl,hfi,t8 hi,f5t hi];rw [bne];cases ((N9 a1v ps).2[k]'(hle▸hk))==(x9 w)[i].b8.f0<;>rfl
  ·unfold b47;rw [z9];rfl
theorem d2r{α β:Type}{a:List α}{b:List β}(h:s9 a):s9 (a.zip b):=by
 unfold s9 at h ⊢;rw [List.length_zip];omega
theorem b6K{α β:Type}{a:List α}{b:List β}{k:Nat}(hk:k<(a.zip b).length):∃ (h1:k<a.length) (h2:k<b.length),(a.zip b)[k]=(a[k],b[k]):=by
 rw [List.length_zip] at hk;exact ⟨by omega,by omega,by simp⟩
theorem e90{α β:Type}(a:List α)(b:List β):decide (((a.zip b).length:Int)<(a.length:Int))=true->decide (((a.zip b).length:Int)<(b.length:Int))=false:=by
 rw [List.length_zip];simp only [decide_eq_true_eq,decide_eq_false_iff_not];omega
theorem d3C{α β R S:Type}(a:List α)(b:List β)(X:Option (j9 R S Unit)):(bif decide (((a.zip b).length:Int)<(a.length:Int)) then (bif decide (((a.zip b).length:Int)<(b.length:Int)) then X else some (.brk ())) else some (.brk ()))=some (.brk ()):=by
 cases h:decide (((a.zip b).length:Int)<(a.length:Int))
 ·rfl
 ·rw [e90 a b h];rfl
def beg(a b:List m4):Bool:=(a.zip b).all fun p=>M9 p.1 p.2
theorem e0H{x y:j6}(ha:A4 88 E8 x.a5):p7 (fun s:Int=>b4o x y s) 0=some (bif beg x.a5 y.a5 then .brk () else .ret false):=by
 rw [K6 (x.a5.zip y.a5) (d2r (ha.fits (by decide))) (fun p=>M9 p.1 p.2) false ()]
 ·rfl
 ·intro k hk;obtain ⟨h1,h2,e⟩:=b6K hk;unfold b4o;rw [w9 _ k h1,w9 _ k h2,t8 h1,t8 h2,e];simp only [cond_true,f5s,a6N (ha.2 _ (f5v h1))];cases M9 x.a5[k] y.a5[k]<;>rfl
 ·unfold b4o;exact d3C _ _ _
theorem e3n{w:m5}(h:U0 w):b1C w=some (C3 w&&w.a6.all fun a=>w.a6.all fun b=>beg a.a5 b.a5):=by
 have hf:s9 w.a6:=h.1.fits (by decide);have hin:∀a:j6,P5 a->p7 (fun s:Int=>b2t w a s) 0=some (bif w.a6.all (fun b=>beg a.a5 b.a5) then .brk () else .ret false):=by
  intro a ha;refine K6 w.a6 hf (fun b=>beg a.a5 b.a5) false () ?_ ?_
  ·intro k hk;unfold b2t;rw [w9 _ k hk,t8 hk];simp only [cond_true,f5s];rw [e0H ha.2.2.1];cases beg a.a5 w.a6[k].a5<;>rfl
  ·unfold b2t;rw [z9];rfl
 unfold b1C;rw [a5z h,f5s];cases C3 w
 ·rfl
 ·simp only [f5x,cond_false,f5H];rw [K6 w.a6 hf (fun a=>w.a6.all fun b=>beg a.a5 b.a5) false ()]
  ·cases w.a6.all (fun a=>w.a6.all fun b=>beg a.a5 b.a5)<;>rfl
  ·intro k hk;unfold b7e;rw [w9 _ k hk,t8 hk];simp only [cond_true,f5s];rw [hin _ (h.1.2 _ (f5v hk))];cases w.a6.all (fun b=>beg w.a6[k].a5 b.a5)<;>rfl
  ·unfold b7e;rw [z9];rfl
theorem e8m{a b:List m4}:beg a b=true ↔ ∀(i:Nat) (h1:i<a.length) (h2:i<b.length),a[i]=b[i]:=by
 unfold beg;rw [List.all_eq_true];constructor
 ·intro h i h1 h2;have:=h (a[i],b[i]) (List.mem_iff_getElem.2 ⟨i,by rw [List.length_zip];omega,by simp⟩);exact (a1c _ _).1 this
 ·intro h p hp;obtain ⟨i,hi,rfl⟩:=f6e hp;obtain ⟨h1,h2,e⟩:=b6K hi;rw [e];exact (a1c _ _).2 (h i h1 h2)
abbrev zV:m8:=⟨0,zE⟩
def S5(n:j6)(k:Nat):m8:=n.Acc.a7[k]?.getD zV
def f5p(a b:m8):Bool := !(decide (a.a8>0)&&((a.a8==b.a8) && !M9 a.g9 b.g9))
def a2d(a b:m8):Bool := !((a.a8 != 0)&&((a.a8==b.a8) && !M9 a.g9 b.g9))
theorem e2l{w:m5}(h:U0 w):b2z w=some (C3 w&&w.a6.all fun a=>w.a6.all fun b=>(a.Acc.a7.zip b.Acc.a7).all fun p=>a2d p.1 p.2):=by
 have hf:s9 w.a6:=h.1.fits (by decide);have hv:∀x y:j6,P5 x->p7 (fun s:Int=>b1w x y s) 0=some (bif (x.Acc.a7.zip y.Acc.a7).all (fun p=>a2d p.1 p.2) then .brk () else .ret false):=by
  intro x y hx;refine K6 (x.Acc.a7.zip y.Acc.a7) (d2r (hx.2.1.2.fits (by decide))) (fun p=>a2d p.1 p.2) false () ?_ ?_
  ·intro k hk;obtain ⟨h1,h2,e⟩:=b6K hk;unfold b1w c1x;rw [w9 _ k h1,w9 _ k h2,t8 h1,t8 h2,e];simp only [cond_true,f5s,a6N (hx.2.1.2.2 _ (f5v h1)).2];unfold a2d;cases (x.Acc.a7[k].a8 != 0)<;>cases (x.Acc.a7[k].a8==y.Acc.a7[k].a8)<;>cases M9 x.Acc.a7[k].g9 y.Acc.a7[k].g9<;>rfl
  ·unfold b1w;exact d3C _ _ _
 have hin:∀a:j6,P5 a->p7 (fun s:Int=>b28 w a s) 0=some (bif w.a6.all (fun b=>(a.Acc.a7.zip b.Acc.a7).all fun p=>a2d p.1 p.2) then .brk () else .ret false):=by
  intro a ha;refine K6 w.a6 hf (fun b=>(a.Acc.a7.zip b.Acc.a7).all fun p=>a2d p.1 p.2) false () ?_ ?_
  ·intro k hk;unfold b28 c3r;rw [w9 _ k hk,t8 hk];simp only [cond_true,f5s];rw [hv a _ ha];cases (a.Acc.a7.zip w.a6[k].Acc.a7).all (fun p=>a2d p.1 p.2)<;>rfl
  ·unfold b28;rw [z9];rfl
 unfold b2z;rw [a5z h,f5s];cases C3 w
 ·rfl
 ·simp only [f5x,cond_false,f5H];rw [K6 w.a6 hf (fun a=>w.a6.all fun b=>(a.Acc.a7.zip b.Acc.a7).all fun p=>a2d p.1 p.2) false ()]
  ·cases w.a6.all (fun a=>w.a6.all fun b=>(a.Acc.a7.zip b.Acc.a7).all fun p=>a2d p.1 p.2)<;>rfl
  ·intro k hk;unfold b6Y c0X;rw [w9 _ k hk,t8 hk];simp only [cond_true,f5s];rw [hin _ (h.1.2 _ (f5v hk))];cases w.a6.all (fun b=>(w.a6[k].Acc.a7.zip b.Acc.a7).all fun p=>a2d p.1 p.2)<;>rfl
  ·unfold b6Y;rw [z9];rfl
theorem d7X{a b:m8}:a2d a b=true↔(a.a8≠0->a.a8=b.a8->a.g9=b.g9):=by
 unfold a2d;rw [f6a,<-f7z,f5w,f5w,f6a,<-f7z,a1c,bne_iff_ne,beq_iff_eq];constructor
 ·intro h h1 h2;exact f7E fun q=>h ⟨h1,h2,q⟩
 ·rintro h ⟨h1,h2,h3⟩
  exact h3 (h h1 h2)
def b58(n:j6):Bool:=bif n.d7 != 3 then true else decide ((S5 n n.a5.length).a8>=n.a8)&&(decide ((S5 n n.a5.length).a8>n.a8)||M9 (S5 n n.a5.length).g9 n.c9)
def other(a b:j6):Bool := !(decide (a.a8>0)&&(a.a8==b.a8))
def a8l(a b:j6):Bool := !((a.a8 != 0)&&(a.a8==b.a8))
def b0r(w:m5)(i:Nat):Bool:=match w.a6[i]? with
 | some n=>b58 n&&(w.a6.take i).all (other n)
 | none=>true
def b1d(n:j6):Bool:=bif n.d7 != 3 then true else bif decide ((n.a5.length:Int)>=(n.Acc.a7.length:Int)) then false else
 !decide ((S5 n n.a5.length).a8<n.a8) && !(((S5 n n.a5.length).a8==n.a8) && !M9 (S5 n n.a5.length).g9 n.c9)
def a52(w:m5)(i:Nat):Bool:=match w.a6[i]? with
 | some n=>(w.a6.drop (i+1)).all (a8l n)&&b1d n
 | none=>true
theorem e2H{w:m5}(h:U0 w):b3a w=some (C3 w&&(f5A w.a6.length).all (a52 w)):=by
 have hf:s9 w.a6:=h.1.fits (by decide);have hin:∀(i:Nat) (hi:i<w.a6.length) (a:j6),p7 (fun t:Int=>b2I w (i:Int) a t) 0=some (bif (w.a6.drop (i+1)).all (a8l a) then .brk () else .ret false):=by
  intro i hi a;have e:(m7 ((i:Int)+1)).toNat=i+1:=by rw [F3 hf hi];rfl
  have e2:((w.a6.drop (i+1)).take (w.a6.length-(i+1)))=w.a6.drop (i+1):=by rw [<-f7A,f5M]
  have hfd:s9 (w.a6.drop (i+1)):=by
   unfold s9 at hf ⊢;rw [f7A];omega
  refine K6 (w.a6.drop (i+1)) hfd (a8l a) false () ?_ ?_
  ·intro k hk;unfold b2I c3t;rw [e,e2,w9 _ k hk,t8 hk];simp only [cond_true,f5s];unfold a8l;cases (a.a8 != 0)<;>cases (a.a8==(w.a6.drop (i+1))[k].a8)<;>rfl
  ·unfold b2I;rw [e,e2,z9];rfl
 unfold b3a;rw [a5z h,f5s];cases C3 w
 ·rfl
 ·simp only [f5x,cond_false,f5H];rw [a2H w.a6 hf (a52 w) false ()]
  ·cases (f5A w.a6.length).all (a52 w)<;>rfl
  ·intro k hk _;have hok:=h.1.2 _ (f5v hk);have hk6:b8G (k:Int) w.a6[k]=some (bif b1d w.a6[k] then .nxt (m7 ((k:Int)+1)) else .ret false):=by
    unfold b8G c3z b1d;cases (w.a6[k].d7 != 3)
    ·simp only [cond_false];by_cases hl:w.a6[k].a5.length<w.a6[k].Acc.a7.length
     ·rw [show decide ((w.a6[k].a5.length:Int)>=(w.a6[k].Acc.a7.length:Int))=false from by simpa using hl,t8 hl];have ev:S5 w.a6[k] w.a6[k].a5.length=w.a6[k].Acc.a7[w.a6[k].a5.length]:=by unfold S5;rw [f5t hl];rfl
      rw [ev];simp only [cond_false,f5s,a6N (hok.2.1.2.2 _ (f5v hl)).2];cases decide (w.a6[k].Acc.a7[w.a6[k].a5.length].a8<w.a6[k].a8)<;>cases (w.a6[k].Acc.a7[w.a6[k].a5.length].a8==w.a6[k].a8)<;>cases M9 w.a6[k].Acc.a7[w.a6[k].a5.length].g9 w.a6[k].c9<;>rfl
     ·rw [show decide ((w.a6[k].a5.length:Int)>=(w.a6[k].Acc.a7.length:Int))=true from by simp;omega];rfl
    ·rfl
   unfold b4Z a52;rw [w9 _ k hk,t8 hk,f5t hk];simp only [cond_true,f5s];rw [u7 (by rw [F3 hf hk];omega),hin k hk,hk6];cases (w.a6.drop (k+1)).all (a8l w.a6[k])<;>cases b1d w.a6[k]<;>rfl
  ·unfold b4Z;rw [z9];rfl
theorem c4V{a b:j6}:other a b=true ↔ ¬(0<a.a8/\a.a8=b.a8):=by
 unfold other;rw [f6a,<-f7z,f5w,decide_eq_true_eq,beq_iff_eq]
theorem c6R{a b:j6}:a8l a b=true ↔ ¬(a.a8≠0/\a.a8=b.a8):=by
 unfold a8l;rw [f6a,<-f7z,f5w,bne_iff_ne,beq_iff_eq]
theorem c8G{n:j6}(h:D2 n=true):b1d n=b58 n:=by
 unfold b58 b1d;cases hp:(n.d7 != 3)
 ·simp only [cond_false];have hb:=(d4C (b3V h).1 (b3V h).2.2.2.1).2 (by simpa [bne] using hp);by_cases hl:n.a5.length<n.Acc.a7.length
  ·rw [show decide ((n.a5.length:Int)>=(n.Acc.a7.length:Int))=false from by simpa using hl,cond_false];rw [f6O];generalize S5 n n.a5.length=v;cases M9 v.g9 n.c9
   ·simp<;>omega
   ·simp<;>omega
  ·rw [show decide ((n.a5.length:Int)>=(n.Acc.a7.length:Int))=true from by simp;omega,cond_true];have:S5 n n.a5.length=zV:=by unfold S5;rw [f5Q (by omega)];rfl
   rw [this,show decide ((zV.a8)>=n.a8)=false from by simp;omega];try rfl
 ·rfl
theorem e39{w:m5}(hw:C3 w=true):((f5A w.a6.length).all (a52 w))=((f5A w.a6.length).all (b0r w)):=by
 rw [f6O];have hn:=(c78 hw).2;have hb:∀n∈w.a6,0<=n.a8:=fun n hm=>(d4C (b3V (hn n hm)).1 (b3V (hn n hm)).2.2.2.1).1
 simp only [List.all_eq_true,f6B];constructor
 ·intro q i hi;have qi:=q i hi;unfold a52 at qi;unfold b0r;rw [f5t hi] at qi ⊢;simp only [f5w] at qi ⊢;refine ⟨by rw [<-c8G (hn _ (f5v hi))];exact qi.2,?_⟩;rw [List.all_eq_true];intro m hm;obtain ⟨k,hk,rfl⟩:=f6e hm;rw [f5L] at hk;rw [List.getElem_take,c4V];have hkl:k<w.a6.length:=by omega
  have qk:=q k hkl;unfold a52 at qk;rw [f5t hkl] at qk;simp only [f5w] at qk;have:=c6R.1 (List.all_eq_true.1 qk.1 w.a6[i] (List.mem_iff_getElem.2 ⟨i-(k+1),by rw [f7A];omega,by simp only [List.getElem_drop];congr 1;omega⟩));rintro ⟨h1,h2⟩
  exact this ⟨by omega,h2.symm⟩
 ·intro q i hi;have qi:=q i hi;unfold b0r at qi;unfold a52;rw [f5t hi] at qi ⊢;simp only [f5w] at qi ⊢;refine ⟨?_,by rw [c8G (hn _ (f5v hi))];exact qi.1⟩;rw [List.all_eq_true];intro m hm;obtain ⟨k,hk,rfl⟩:=f6e hm;rw [f7A] at hk;rw [List.getElem_drop,c6R];have hkl:i+1+k<w.a6.length:=by omega
  have qk:=q (i+1+k) hkl;unfold b0r at qk;rw [f5t hkl] at qk;simp only [f5w] at qk;have:=c4V.1 (List.all_eq_true.1 qk.2 w.a6[i] (List.mem_iff_getElem.2 ⟨i,by rw [f5L];omega,by simp⟩));rintro ⟨h1,h2⟩
  have:=hb _ (f5v hi);omega
theorem f07(a b:n9):(([a.b9,a.Seq]:List Int)==[b.b9,b.Seq])=(H1 a==H1 b):=rfl
def a6d(l:List m9)(i:Nat):Bool:=match l[i]? with
 | some t=>(f5A i).all fun k=>match l[k]? with
  | some s => !(H1 s.a0==H1 t.a0)
  | none=>true
 | none=>true
theorem c70{l:List m9}{i:Nat}(h:i<l.length):a6d l i = !((l.take i).any fun s=>H1 s.a0==H1 l[i].a0):=by
 unfold a6d;rw [f5t h];simp only;rw [f6O,List.all_eq_true,f6a,f6f];constructor
 ·intro hh s hs;obtain ⟨k,hk,rfl⟩:=f6e hs;rw [f5L] at hk;have:=hh k (by simp;omega);rw [f5t (by omega)] at this;simpa using this
 ·intro hh k hk;have hk:k<i:=by simpa using hk
  rw [f5t (show k<l.length by omega)];have:=hh l[k] (f6u.2 ⟨k,by omega,rfl⟩);simpa using this
def b6x(l:List m9):Bool:=(f5A l.length).all (a6d l)
theorem e1o{l:List n9}{y:n9}(h:(l.any fun x=>H1 y==H1 x)=false):a9c H1 l y=l++[y]:=by
 unfold a9c;rw [if_neg (by rw [h];simp)]
theorem f4H{w:m5}(h:U0 w):b23 w=some (C3 w&&b6x w.Told):=by
 have hf:s9 w.Told:=h.2.2.2.fits (by decide);unfold b23;rw [a5z h,f5s];cases C3 w
 ·rfl
 rw [f5x,cond_false,f5H];have hc:=a4Y (body:=fun s:(List n9)×Int=>b4r w s.1 s.2) (fun k=>((w.Told.take k).map (·.a0),(k:Int))) w.Told.length (a6d w.Told) (fun _=>false) () (by
  intro k hk _;unfold b4r;simp only [w9 _ k hk,cond_true,t8 hk,f5s,F3 hf hk];have he:(((w.Told.take k).map (·.a0)).any fun x=>H1 w.Told[k].a0==H1 x) = !a6d w.Told k:=by
   rw [c70 hk,f7I,List.any_map];congr 1
   funext s
   show (H1 w.Told[k].a0==H1 s.a0)=_
   rw [f6O,beq_iff_eq,beq_iff_eq];exact eq_comm
  rw [he];cases ho:a6d w.Told k
  ·rfl
  ·rw [ho] at he;rw [e1o he,f5T hk,f6E];rfl) (by
  intro _;unfold b4r;simp only [z9];rfl)
 rw [f6i,List.map_nil,show ((0:Nat):Int)=0 from rfl] at hc;unfold b6x;rcases hc with ⟨hc,hall⟩|⟨k,hk,ho,_,hc⟩
 ·rw [hc,show (f5A w.Told.length).all (a6d w.Told)=true from List.all_eq_true.2 fun k hk=>hall k (by simpa using hk)];rfl
 ·rw [hc,show (f5A w.Told.length).all (a6d w.Told)=false from f7a.2 ⟨k,by simpa using hk,by rw [ho];simp⟩];rfl
theorem b6i{α:Type}{p q:α->Bool}(h:∀x,p x=true->q x=true):∀l:List α,(l.filter q).find? p=l.find? p
 | []=>rfl
 | x::l=>by
  cases hq:q x with
  | true =>
   rw [List.filter_cons_of_pos hq,f6Y,f6Y,b6i h l]
  | false =>
   have hp:p x=false:=by
    cases hp:p x with
    | false=>rfl
    | true=>rw [h x hp] at hq;cases hq
   rw [List.filter_cons_of_neg (by simp [hq]),f6Y,hp,b6i h l]
theorem c4f{α:Type}{p q:α->Bool}(h:∀x,p x=true->q x=false)(l:List α):(l.filter q).find? p=none:=by
 rw [f7H];intro x hx;have hq:=(List.mem_filter.1 hx).2;intro hp;rw [h x hp] at hq;cases hq
theorem c26{l:List s5}(h:a3H l)(d:s5)(w:Int):(a0l l d).find? (fun x=>x.a0.b9==w)=bif d.a0.b9==w then some d else l.find? (fun x=>x.a0.b9==w):=by
 rw [b7u d h,List.find?_append,f6Y];by_cases hw:d.a0.b9=w
 ·subst hw;rw [c4f (by intro x hx;simp at hx;simp;omega)];simp
 ·have hne:(d.a0.b9==w)=false:=by simpa using hw
  rw [hne];simp only [cond_false];by_cases hlt:w<d.a0.b9
  ·rw [b6i (by intro x hx;simp at hx;simp;omega),c4f (by intro x hx;simp at hx;simp;omega),Option.or_none]
  ·rw [c4f (by intro x hx;simp at hx;simp;omega),b6i (by intro x hx;simp at hx;simp;omega),Option.none_or]
def a0q(s:u6)(w:Int):Option s5:=s.i9.find? (fun x=>x.a0.b9==w)
theorem d1X{s:u6}{k:Nat}{e:m4}(hs:X3 s k)(w:Int):∃d,d.a0=e.a0/\a0q (N7 s e).1 w=bif e.a0.b9==w then some d else a0q s w:=by
 unfold N7 a0q;cases a0W s.g8 e.b8
 ·exact ⟨⟨e.a0,1,0⟩,rfl,c26 hs.sorted _ w⟩
 ·cases e.b8.Code==0
  ·exact ⟨⟨e.a0,2,0⟩,rfl,c26 hs.sorted _ w⟩
  ·exact ⟨⟨e.a0,0,e.b8.f0⟩,rfl,c26 hs.sorted _ w⟩
theorem f2u{s:u6}{k:Nat}{e:m4}(hs:X3 s k)(hn:e.i7=false):∃d,a0q (apply s e).1 e.a0.b9=some d/\e.a0.Seq<=d.a0.Seq:=by
  obtain ⟨d,h1,h2⟩:=d1X (e:=e) hs e.a0.b9;rw [beq_self_eq_true,cond_true] at h2;have hfr:∃d,a0q (N7 s e).1 e.a0.b9=some d/\e.a0.Seq<=d.a0.Seq:=⟨d,h2,by rw [h1];exact f5R _⟩
  unfold apply;rw [hn,cond_false];cases hf:s.i9.find? fun d=>d.a0.b9==e.a0.b9 with
  | none=>exact hfr
  | some d =>
    simp only;cases h3:d.a0.Seq==e.a0.Seq
    · by_cases h4:d.a0.Seq>e.a0.Seq
      · simp only [h4,decide_true,cond_true,cond_false];exact ⟨d,hf,by omega⟩
      · simp only [h4,decide_false,cond_false];exact hfr
    · exact ⟨d, hf, by have:d.a0.Seq=e.a0.Seq:=by simpa using h3
                       omega⟩
theorem e0d{s:u6}{k:Nat}{e:m4}(hs:X3 s k){w:Int}{d:s5}(hd:a0q s w=some d):∃d',a0q (apply s e).1 w=some d'/\d.a0.Seq<=d'.a0.Seq:=by
 have same:∃d',a0q s w=some d'/\d.a0.Seq<=d'.a0.Seq:=⟨d,hd,f5R _⟩
 have hfr:(∀d',a0q s e.a0.b9=some d'->d'.a0.Seq<=e.a0.Seq)->∃d',a0q (N7 s e).1 w=some d'/\d.a0.Seq<=d'.a0.Seq:=by
  intro hle;obtain ⟨d2,h1,h2⟩:=d1X (e:=e) hs w;by_cases hw:e.a0.b9=w
  ·subst hw;rw [beq_self_eq_true,cond_true] at h2;exact ⟨d2,h2,by rw [h1];exact hle d hd⟩
  ·have:(e.a0.b9==w)=false:=by simpa using hw
   rw [this,cond_false] at h2;exact ⟨d,h2.trans hd,f5R _⟩
 unfold apply;cases hn:e.i7
 ·simp only [cond_false];cases hf:s.i9.find? fun d=>d.a0.b9==e.a0.b9 with
  | none=>exact hfr fun d' h=>by unfold a0q at h;rw [hf] at h;cases h
  | some d0 =>
   simp only;cases h3:d0.a0.Seq==e.a0.Seq
   ·by_cases h4:d0.a0.Seq>e.a0.Seq
    ·simp only [h4,decide_true,cond_true,cond_false];exact same
    ·simp only [h4,decide_false,cond_false];refine hfr fun d' h => ?_
     unfold a0q at h;rw [hf] at h;injection h with h;subst h;omega
   ·exact same
 ·exact same
theorem d82{s:u6}{e:m4}{d:s5}(hd:a0q s e.a0.b9=some d)(h:e.a0.Seq<=d.a0.Seq):(apply s e).2≠0:=by
 unfold a0q at hd;unfold apply;cases hn:e.i7
 ·simp only [cond_false,hd];cases h3:d.a0.Seq==e.a0.Seq
  ·have hne:d.a0.Seq≠e.a0.Seq:=by simpa using h3
   have hgt:d.a0.Seq>e.a0.Seq:=by omega
   simp only [hgt,decide_true,cond_true,cond_false];decide
  ·exact show (3:Int)≠0 from by decide
 ·exact show (5:Int)≠0 from by decide
theorem e7H{l:List m4}(hl:l.length<=40)(he:l.all z5=true){i m:Nat}(him:i<m)(hm:m<l.length)(hn:(l[i]'(by omega)).i7=false)(hq:l[m].a0=(l[i]'(by omega)).a0):(q9 l).2[m]?≠some 0:=by
 have hi:i<l.length:=by omega
 have key:∀n,i<n->n<=l.length->∃d,a0q (q9 (l.take n)).1 l[i].a0.b9=some d/\l[i].a0.Seq<=d.a0.Seq:=by
  intro n;induction n with
  | zero=>intro h;omega
  | succ n ih =>
   intro h1 h2;have hin:=(T3 hl he n (by omega)).1;rw [a12 (show n<l.length by omega)];show ∃d,a0q (apply (q9 (l.take n)).1 l[n]).1 l[i].a0.b9=some d/\_
   by_cases hq:i=n
   ·subst hq;exact f2u hin hn
   ·obtain ⟨d,h3,h4⟩:=ih (by omega) (by omega);obtain ⟨d',h5,h6⟩:=e0d (e:=l[n]) hin h3;exact ⟨d',h5,by omega⟩
 obtain ⟨d,h1,h2⟩:=key m him (by omega);rw [b2b hl he hm];intro h;injection h with h;exact d82 (e:=l[m]) (by rw [hq];exact h1) (by rw [hq];exact h2) h
def eN:m4:=⟨true,⟨0,0⟩,⟨[],[],0,0⟩⟩
def v0:m8:=⟨0,zE⟩
def b0L(b:Int):Bool:=p9 b 1 3000
def H7(a:z0)(b:Int):Option z0:=bif b0L b&&decide (a.i0<=b) then some ⟨b,a.a7⟩ else none
def S7(vs:List m8)(n:Nat):List m8:=vs++f5u (n-vs.length) v0
def K5(a:z0)(b slot:Int)(e:m4):Option z0 :=
 bif p9 slot 0 39&&z5 e then (H7 a b).map fun x=>⟨x.i0,(S7 x.a7 (slot.toNat+1)).set slot.toNat ⟨b,e⟩⟩ else none
def D6:List m8->List m8->List m8
 | [],b=>b
 | a,[]=>a
 | x::a,y::b=>(bif decide (y.a8>x.a8) then y else x)::D6 a b
def L4(b who:Int):Int :=
 bif decide (b+1<=3000)&&(f5W (b+1) 3==who) then b+1 else
 bif decide (b+2<=3000)&&(f5W (b+2) 3==who) then b+2 else
 bif decide (b+3<=3000)&&(f5W (b+3) 3==who) then b+3 else -1
def a4q(n:j6):j6:={n with d7:=0,a8:=0,c8:=[],i4:=[],c9:=zE,a7:=[]}
def a5Y(n:j6):j6:={n with i8:=false,i6:=[],b7:=zE}
def N4(l:List m4)(q:n9):Bool:=l.any (F5 q)
def a1g(id:Int):List Bool:=(f5u 3 false).set id.toNat true
def N5(l:List Bool):Bool:=decide (2<=(l.filter (· == true)).length)
def H4(id:Int)(m:l8):List l8:=(([0,1,2]:List Int).filter (· != id)).map fun t=>{m with c8:=id,To:=t}
def M2(m out:l8):l8:={out with c8:=m.To,To:=m.c8}
def M8(n:j6)(b:Int):j6:=bif n.d7 != 0&&decide (b>n.a8) then a4q n else n
def S9(known:List m4):List m4->List m4×Option m4
 | []=>([],none)
 | e::q=>bif N4 known e.a0 then S9 known q else (q,some e)
def a5u(n:j6):j6×Option m4 :=
 bif (n.i4.drop n.a5.length).any (fun v=>decide (v.a8>0)) then (n,some eN)
 else bif n.i8 && !N4 n.a5 n.b7.a0 then (n,some n.b7)
 else ({n with d9:=(S9 n.a5 n.d9).1},(S9 n.a5 n.d9).2)
def a0O(n:j6):j6×Option m4:=match n.i4[n.a5.length]? with
 | some v=>bif decide (v.a8>0) then (n,some v.g9) else a5u n
 | none=>a5u n
def a56(x:j6)(e:m4):j6×List l8:=match K5 x.Acc x.a8 (x.a5.length:Int) e with
 | some a=>({x with Acc:=a,d7:=3,c9:=e,a7:=a1g x.Id},H4 x.Id ⟨3,0,0,x.a8,(x.a5.length:Int),e,[]⟩)
 | none=>(a4q x,[])
def M5(n:j6):j6×List l8 :=
 bif n.d7 != 2||decide (40<=n.a5.length) then (n,[]) else match a0O n with
  | (x,some e)=>a56 x e
  | (x,none)=>(x,[])
def U8(n:j6):j6×List m9 :=
 bif n.i8 then (match n.a5.findIdx? (F5 n.b7.a0) with
  | some k=>(a5Y n,[⟨n.Id,n.b7.a0,Q0 n.a5 k,bif Q0 n.a5 k==0 then T8 n.a5 n.b7.a0 else 0⟩])
  | none=>(n,[]))
 else (n,[])
def D7(n:j6)(e:m4):j6 :=
 bif n.d7==3 then {n with a5:=n.a5++[e],d7:=2,c9:=zE,a7:=[]} else {n with a5:=n.a5++[e]}
def X8(n:j6)(e:m4):j6×List l8×List m9 :=
 ((M5 (U8 (D7 n e)).1).1,(M5 (U8 (D7 n e)).1).2,(U8 (D7 n e)).2)
def a1E(n:j6)(m:l8):j6×List l8:=match H7 n.Acc m.a8 with
 | some a=>(M8 {n with Acc:=a} m.a8,[M2 m ⟨2,0,0,m.a8,m.g7,zE,a.a7.drop m.g7.toNat⟩])
 | none=>(n,[M2 m ⟨6,0,0,n.Acc.i0,0,zE,[]⟩])
def a1S(n:j6)(m:l8):j6×List l8:=match K5 n.Acc m.a8 m.g7 m.g9 with
 | some a=>(M8 {n with Acc:=a} m.a8,[M2 m ⟨4,0,0,m.a8,m.g7,zE,[]⟩])
 | none=>(n,[M2 m ⟨6,0,0,n.Acc.i0,0,zE,[]⟩])
def a1V(n:j6)(m:l8):j6×List l8 :=
 bif n.d7 != 1||m.a8 != n.a8 then (n,[]) else
 bif N5 (n.c8.set m.c8.toNat true) then
  M5 {n with c8:=[],i4:=D6 n.i4 (f5u m.g7.toNat v0++m.a7),d7:=2}
 else ({n with c8:=n.c8.set m.c8.toNat true,i4:=D6 n.i4 (f5u m.g7.toNat v0++m.a7)},[])
def a2M(n:j6)(m:l8):j6×List l8×List m9 :=
 bif n.d7 != 3||(m.a8 != n.a8||m.g7 != (n.a5.length:Int)) then (n,[],[]) else
 bif N5 (n.a7.set m.c8.toNat true) then
  ((X8 {n with a7:=n.a7.set m.c8.toNat true} n.c9).1,H4 n.Id ⟨5,0,0,0,(n.a5.length:Int),n.c9,[]⟩++(X8 {n with a7:=n.a7.set m.c8.toNat true} n.c9).2.1,(X8 {n with a7:=n.a7.set m.c8.toNat true} n.c9).2.2)
 else ({n with a7:=n.a7.set m.c8.toNat true},[],[])
def a2l(n:j6)(m:l8):j6×List l8×List m9 :=
 bif decide (m.g7<(n.a5.length:Int)) then (n,[],[]) else
 bif decide (m.g7>(n.a5.length:Int)) then (n,[M2 m ⟨8,0,0,0,(n.a5.length:Int),zE,[]⟩],[])
 else X8 n m.g9
def a0p(n:j6)(m:l8):j6×List l8 :=
 bif n.d7==0||(decide (4<=n.d9.length)||N4 n.a5 m.g9.a0) then (n,[]) else M5 {n with d9:=n.d9++[m.g9]}
def a1e(n:j6)(m:l8)(s:Nat):List l8:=match n.a5[s]? with
 | some e=>[M2 m ⟨5,0,0,0,(s:Int),e,[]⟩]
 | none=>[]
def a2N(n:j6)(m:l8):List l8:=((f5A (n.a5.length-m.g7.toNat)).map fun j=>a1e n m (m.g7.toNat+j)).flatten
def U1(n:j6)(m:l8):j6×List l8×List m9 :=
 bif m.a9==1 then ((a1E n m).1,(a1E n m).2,[]) else
 bif m.a9==2 then ((a1V n m).1,(a1V n m).2,[]) else
 bif m.a9==3 then ((a1S n m).1,(a1S n m).2,[]) else
 bif m.a9==4 then a2M n m else
 bif m.a9==5 then a2l n m else
 bif m.a9==6 then (M8 {n with Acc:=(H7 n.Acc m.a8).getD n.Acc} m.a8,[],[]) else
 bif m.a9==7 then ((a0p n m).1,(a0p n m).2,[]) else
 bif m.a9==8 then (n,a2N n m,[]) else (n,[],[])
def I8(n:j6)(prog:List n8):j6×List l8 :=
 bif n.i8||(n.Seq==1000||(C1 (q9 n.a5).1.g8 prog).Code==3) then (n,[]) else
 bif n.d7==2 then M5 {n with Seq:=n.Seq+1,i8:=true,i6:=prog,b7:=⟨false,⟨n.Id,n.Seq+1⟩,C1 (q9 n.a5).1.g8 prog⟩}
 else ({n with Seq:=n.Seq+1,i8:=true,i6:=prog,b7:=⟨false,⟨n.Id,n.Seq+1⟩,C1 (q9 n.a5).1.g8 prog⟩},
  bif n.d7==0 then H4 n.Id ⟨7,0,0,0,0,⟨false,⟨n.Id,n.Seq+1⟩,C1 (q9 n.a5).1.g8 prog⟩,[]⟩ else [])
def W9(n:j6):j6×List l8 :=
 bif decide (L4 n.Acc.i0 n.Id<0) then (n,[]) else
 ({a4q n with Acc:=⟨L4 n.Acc.i0 n.Id,n.Acc.a7⟩,d7:=1,a8:=L4 n.Acc.i0 n.Id,c8:=a1g n.Id,i4:=n.Acc.a7},
  H4 n.Id ⟨1,0,0,L4 n.Acc.i0 n.Id,(n.a5.length:Int),zE,[]⟩)
def Q8(n:j6):j6×List l8 :=
 bif n.d7==1 then (n,H4 n.Id ⟨8,0,0,0,(n.a5.length:Int),zE,[]⟩++H4 n.Id ⟨1,0,0,n.a8,(n.a5.length:Int),zE,[]⟩) else
 bif n.d7==2 then ((M5 n).1,H4 n.Id ⟨8,0,0,0,(n.a5.length:Int),zE,[]⟩++(M5 n).2) else
 bif n.d7==3 then (n,H4 n.Id ⟨8,0,0,0,(n.a5.length:Int),zE,[]⟩++H4 n.Id ⟨3,0,0,n.a8,(n.a5.length:Int),n.c9,[]⟩) else
 bif n.i8 then (n,H4 n.Id ⟨8,0,0,0,(n.a5.length:Int),zE,[]⟩++H4 n.Id ⟨7,0,0,0,0,n.b7,[]⟩) else
 (n,H4 n.Id ⟨8,0,0,0,(n.a5.length:Int),zE,[]⟩)
def C5(id:Int):j6:=⟨id,⟨0,[]⟩,[],0,0,0,[],[],zE,[],false,[],zE,[]⟩
def a1s(n:j6):j6:={C5 n.Id with Acc:=n.Acc,a5:=n.a5,Seq:=n.Seq}
def O1:m5:=⟨[C5 0,C5 1,C5 2],[],[],[]⟩
def a0x(w:m5)(l:List l8):m5:={w with d6:=w.d6++l.take (40-w.d6.length)}
def a7o(w:m5)(l:List m9):m5:={w with Told:=w.Told++l.take (60-w.Told.length)}
def M6(w:m5)(i:Int)(n:j6):m5:={w with a6:=w.a6.set i.toNat n}
def a2p(w:m5)(i:Int):m5:={w with d6:=w.d6.take i.toNat++w.d6.drop (i.toNat+1)}
def G8(w:m5)(i:Int):j6:=w.a6.getD i.toNat (C5 0)
def a28(w:m5)(i:Int)(prog:List n8):m5 :=
 bif decide (60<=w.d8.length) then w else
 a0x (M6 (bif decide ((I8 (G8 w i) prog).1.Seq>(G8 w i).Seq) then {w with d8:=w.d8++[⟨(I8 (G8 w i) prog).1.b7.a0,prog⟩]} else w) i (I8 (G8 w i) prog).1) (I8 (G8 w i) prog).2
def a06(w:m5)(e:r9):m5:=bif decide (0<=e.A) then (match w.d6[e.A.toNat]? with
 | some m=>bif e.a9==4 then a0x w [m] else bif e.a9==3 then a2p w e.A else
  a7o (a0x (M6 (a2p w e.A) m.To (U1 (G8 w m.To) m).1) (U1 (G8 w m.To) m).2.1) (U1 (G8 w m.To) m).2.2
 | none=>w) else w
def D9(w:m5)(e:r9):m5 :=
 bif e.a9==2||(e.a9==3||e.a9==4) then a06 w e else
 bif !p9 e.A 0 2 then w else
 bif e.a9==1 then a28 w e.A e.i6 else
 bif e.a9==5 then a0x (M6 w e.A (W9 (G8 w e.A)).1) (W9 (G8 w e.A)).2 else
 bif e.a9==6 then a0x (M6 w e.A (Q8 (G8 w e.A)).1) (Q8 (G8 w e.A)).2 else
 bif e.a9==7 then M6 w e.A (a1s (G8 w e.A)) else w
theorem a0n:I6 0:=⟨by decide,by decide⟩
theorem U2{α:Type}{b:Nat}{ok:α->Prop}:A4 b ok ([]:List α):=⟨by simp,fun x hx=>by cases hx⟩
theorem a1d:E8 zE:=⟨⟨a0n,a0n⟩,U2,U2,a0n,a0n⟩
theorem d0p:E8 eN:=⟨⟨a0n,a0n⟩,U2,U2,a0n,a0n⟩
theorem c6A:T4 v0:=⟨a0n,a1d⟩
theorem a64{α R B:Type}{body:List α×Int->Option (j9 R (List α×Int) B)}(l:List α)(hl:s9 l)(f:List α->B)(h1:∀(k:Nat) (h:k<l.length),body (l.take k,(k:Int))=some (.nxt (l.take k++[l[k]],m7 ((k:Int)+1))))(h2:body (l,(l.length:Int))=some (.brk (f l))):p7 body ([],0)=some (.brk (f l)):=by
 have h:=W7 (body:=body) (fun k=>(l.take k,(k:Int))) l.length (by
  intro k hk;rw [h1 k hk,F3 hl hk,f5T hk])
 rw [show ((0:Nat):Int)=0 from rfl,f6i] at h;rw [h,f5M];exact C9 h2
theorem b6v{l:List m8}(h:A4 96 T4 l):a76 l=some l:=by
 have hf:s9 l:=h.fits (by decide);have hb:=h.1;unfold a76;rw [a64 (body:=fun s:(List m8)×Int=>b1o l s.1 s.2) l hf (fun l=>l) (by
  intro k hk;unfold b1o;rw [w9 _ k hk,t8 hk];simp only [cond_true,f5s,a0D (h.2 _ (f5v hk)).2];rw [u7 (by rw [f5L];omega)]) (by
  unfold b1o;rw [z9];rfl)]
 rfl
theorem e9J{l:List m8}(h:A4 96 T4 l):b87 l=some (l,l):=by
 have hf:s9 l:=h.fits (by decide);have hb:=h.1;unfold b87;rw [a64 (body:=fun s:(List m8)×Int=>b1W l s.1 s.2) l hf (fun l=>l) (by
  intro k hk;unfold b1W;rw [w9 _ k hk,t8 hk];simp only [cond_true,f5s,a0D (h.2 _ (f5v hk)).2];rw [u7 (by rw [f5L];omega)]) (by
  unfold b1W;rw [z9];rfl)]
 rfl
theorem e1A{e:m4}(h:E8 e):b6m e=some e:=by
 have h1:=h.2.1.1;have h2:=h.2.2.1.1;unfold b6m c3X;rw [u7 (by simp;omega),u7 (by simp;omega)];rfl
theorem f4C{l:List m8}(h:A4 96 T4 l):b9I l=some l:=by
 have hf:s9 l:=h.fits (by decide);have hb:=h.1;unfold b9I;rw [a64 (body:=fun s:(List m8)×Int=>b22 l s.1 s.2) l hf (fun l=>l) (by
  intro k hk;unfold b22;rw [w9 _ k hk,t8 hk];simp only [cond_true,f5s,e1A (h.2 _ (f5v hk)).2];rw [u7 (by rw [f5L];omega)]) (by
  unfold b22;rw [z9];rfl)]
 rfl
theorem b6k{m:l8}(h:a0s m):a8p m=some m:=by
 unfold a8p;rw [a0D h.2.2.2.2.2.1,f5s,b6v h.2.2.2.2.2.2];rfl
theorem b3U{α:Type}{b:Nat}{ok:α->Prop}{l:List α}(h:A4 b ok l):(([]:List α).length+l.length)*b<=140737488355328:=by
 have:=h.1;simp only [f6Z,f6x];omega
theorem b3Y{n:j6}(h:P5 n):a6a n=some n:=by
 obtain ⟨h1,h2,h3,h4,h5,h6,h7,h8,h9,h10,h11,h12,h13⟩:=h;unfold a6a c1y;rw [b6v h2.2,f5s,f5s,d0w h3,f5s,u7 (b3U h7),b6v h8,f5s,a0D h9,f5s,u7 (b3U h10),u7 (b3U h11),a0D h12,f5s,d0w h13];rfl
theorem c42{a:z0}{b:Int}:b0C a b=match H7 a b with|some _=>none|none=>some (a,false):=by
 unfold b0C H7 b0L;rw [a9S,f5s];cases p9 b 1 3000
 ·rfl
 ·by_cases h:b<a.i0
  ·simp [h,show ¬a.i0<=b by omega]
  ·simp [h,show a.i0<=b by omega]
theorem b6f{a:z0}{b:Int}:a7U a b=some (match H7 a b with|some x=>(x,true)|none=>(a,false)):=by
 unfold a7U H7 b0L;rw [a9S,f5s];cases p9 b 1 3000
 ·rfl
 ·by_cases h:b<a.i0
  ·simp [h,show ¬a.i0<=b by omega]
  ·simp [h,show a.i0<=b by omega]
theorem d3E{a:z0}{b s:Int}{e:m4}(he:E8 e):b3l a b s e=match K5 a b s e with|some _=>none|none=>some (a,false):=by
 unfold b3l K5;rw [a3X he.f,f5s,c42];by_cases h1:s<0
 ·simp [h1,p9,show ¬(0<=s/\s<=39) by omega]
 ·by_cases h2:s>=40
  ·simp [h1,h2,p9,show ¬(0<=s/\s<=39) by omega]
  ·simp only [h1,h2,decide_false,cond_false,p9,show (0<=s/\s<=39) by omega,and_self,decide_true,f5H];cases z5 e
   ·rfl
   ·simp only [f5x,cond_false,cond_true];cases H7 a b<;>rfl
theorem c8u(slot:Nat)(hs:slot<40):∀(m:Nat) (vs:List m8),slot+1-vs.length=m->p7 (fun s:List m8=>a80 (slot:Int) s) vs=some (.brk (S7 vs (slot+1)))
 | 0,vs,h=>by
  refine C9 ?_;unfold a80 S7;rw [h,show decide ((vs.length:Int)<=(slot:Int))=false by simp;omega];simp
 | m+1,vs,h=>by
  have hb:a80 (slot:Int) vs=some (.nxt (vs++[v0])):=by
   unfold a80;rw [show decide ((vs.length:Int)<=(slot:Int))=true by simp;omega,cond_true,u7 (by omega)];rfl
  rw [E3 (body:=fun s:List m8=>a80 (slot:Int) s) hb,c8u slot hs m (vs++[v0]) (by simp;omega)];congr 2
  unfold S7;rw [h,f5D,show slot+1-(vs.length+[v0].length)=m by simp;omega,f5J];rfl
theorem b4P(vs:List m8)(n:Nat):(S7 vs n).length=max vs.length n:=by
 unfold S7;simp;omega
theorem d3S{a:z0}{b s:Int}{e:m4}(he:E8 e):b2C a b s e=some (match K5 a b s e with|some x=>(x,true)|none=>(a,false)):=by
 unfold b2C K5;rw [a3X he.f,f5s,c42,b6f,f5s];by_cases h1:s<0
 ·simp [h1,p9,show ¬(0<=s/\s<=39) by omega]
 ·by_cases h2:s>=40
  ·simp [h1,h2,p9,show ¬(0<=s/\s<=39) by omega]
  ·simp only [h1,h2,decide_false,cond_false,p9,show (0<=s/\s<=39) by omega,and_self,decide_true,f5H];cases z5 e
   ·rfl
   ·simp only [f5x,cond_false,cond_true];cases H7 a b with
    | none=>rfl
    | some x =>
     obtain ⟨k,rfl⟩:∃k:Nat,s=(k:Int):=⟨s.toNat,by omega⟩
     have hk:k<(S7 x.a7 (k+1)).length:=by rw [b4P];omega
     simp only [a5p,f5x,cond_false,c8u k (by omega) _ _ rfl,f5s,l9.go,c07,a0D he,t8 hk,f6I,f5P]
theorem b8y{n:j6}{q:n9}(h:s9 n.a5):a7V n q=some (N4 n.a5 q):=by
  unfold a7V;rw [show p7 (fun s:Int=>b0E n q s) 0=_ from b7q (body:=fun s:Int=>b0E n q s) n.a5 h (F5 q) (fun _=>true) () (by
      intro k hk;unfold b0E c2Z F5;rw [w9 _ k hk,t8 hk];simp only [cond_true,f5s];cases n.a5[k].i7<;>cases (([n.a5[k].a0.b9,n.a5[k].a0.Seq]:List Int)==[q.b9,q.Seq])<;>rfl) (by
      unfold b0E;rw [z9];rfl)]
  unfold N4;cases hf:n.a5.find? (F5 q) with
  | none =>
    have:n.a5.any (F5 q)=false:=by
      rw [f6f];intro x hx;exact f7H.1 hf x hx
    rw [this];rfl
  | some x =>
    have:n.a5.any (F5 q)=true:=f6P.2 ⟨x,f7G hf,List.find?_some hf⟩;rw [this];rfl
def a1j(id:Int)(m:l8)(o:List l8)(t:Int):List l8:=bif t != id then o++[{m with c8:=id,To:=t}] else o
theorem d0h(id:Int)(m:l8)(o:List l8)(t:Int):(a1j id m o t).length<=o.length+1:=by
 unfold a1j;cases t != id<;>simp
theorem a5L{id:Int}(hid:0<=id/\id<=2){m:l8}(h:a0s m):a2Z id m=some (H4 id m):=by
 have e:∀(o:List l8) (t:Int),o.length<=3->0<=t->t<3->a4L id m o t=some (.nxt (a1j id m o t,t+1)):=by
  intro o t ho ht0 ht;unfold a4L c2H a1j;rw [show decide (t<3)=true by simpa using ht,cond_true,b6k h,f5s,u7 (by omega),C2 (by omega) (by omega)];cases t != id<;>rfl
 have l1:=d0h id m [] 0;have l2:=d0h id m (a1j id m [] 0) (0+1);have h0:=E3 (body:=fun s:(List l8)×Int=>a4L id m s.1 s.2) (s:=([],0)) (e [] 0 (by simp) (by omega) (by omega));have h1:=E3 (body:=fun s:(List l8)×Int=>a4L id m s.1 s.2) (s:=(a1j id m [] 0,0+1)) (e (a1j id m [] 0) (0+1) (by simp at l1;omega) (by omega) (by omega));have h2:=E3 (body:=fun s:(List l8)×Int=>a4L id m s.1 s.2) (s:=(a1j id m (a1j id m [] 0) (0+1),0+1+1)) (e (a1j id m (a1j id m [] 0) (0+1)) (0+1+1) (by simp at l1;omega) (by omega) (by omega));have h3:=C9 (body:=fun s:(List l8)×Int=>a4L id m s.1 s.2) (s:=(a1j id m (a1j id m (a1j id m [] 0) (0+1)) (0+1+1),0+1+1+1)) (show a4L id m _ (0+1+1+1)=_ from rfl);unfold a2Z;rw [h0,h1,h2,h3];obtain rfl|rfl|rfl:id=0\/id=1\/id=2:=by omega
 all_goals rfl
theorem d5E:∀(l:List Bool) (hl:s9 l) (m k:Nat) (c:Int),k+m=l.length->0<=c->c<=k->p7 (fun s:Int×Int=>a4K l s.1 s.2) (c,(k:Int))=some (.brk (c+(((l.drop k).filter (· == true)).length:Int)))
 | l,hl,0,k,c,hk,h0,h1=>by
  have:k=l.length:=by omega
  subst this;refine C9 ?_;show a4K l c (l.length:Int)=_
  unfold a4K;rw [z9];simp
 | l,hl,m+1,k,c,hk,h0,h1=>by
  have hlt:k<l.length:=by omega
  have hfl:(l.length:Int)<=140737488351232:=by have:=hl;unfold s9 at this;omega
  have hb:a4K l c (k:Int)=some (.nxt (c+(bif l[k] then 1 else 0),((k+1:Nat):Int))):=by
   unfold a4K c0J;rw [w9 _ k hlt,t8 hlt,cond_true,f5s,F3 hl hlt];cases l[k]<;>simp only [cond_true,cond_false,f5s]<;>rw [C2 (by omega) (by omega)]
  rw [E3 (body:=fun s:Int×Int=>a4K l s.1 s.2) hb,d5E l hl m (k+1) _ (by omega) (by cases l[k]<;>simp<;>omega) (by cases l[k]<;>simp<;>omega),f5U hlt];cases l[k]<;>simp
  omega
theorem c6T{l:List Bool}(h:s9 l):b2Q l=some (N5 l):=by
 unfold b2Q;rw [show p7 (fun s:Int×Int=>a4K l s.1 s.2) (0,0)=_ from d5E l h l.length 0 0 (by omega) (by omega) (by omega)];simp only [f5s,l9.go,c3k,N5,f6H];congr 1
 simp;omega
theorem e40{l:List m8}{s:Int}(h:A4 96 T4 l)(hl:l.length<=40)(hs:0<=s/\s<=40):b6p l s=some (f5u s.toNat v0++l):=by
 unfold b6p;rw [u7 (by omega),b6v h,f5s,u7 (by simp;omega)];rfl
theorem a8V:∀a b:List m8,(D6 a b).length=max a.length b.length
 | [],b=>by simp [D6]
 | x::a,[]=>by simp [D6]
 | x::a,y::b=>by simp only [D6,f6y,a8V a b];omega
theorem a9R:∀(a b:List m8) (k:Nat),(D6 a b)[k]?=match a[k]?,b[k]? with
  | some x,some y=>some (bif decide (y.a8>x.a8) then y else x)
  | some x,none=>some x
  | none,some y=>some y
  | none,none=>none
 | [],b,k=>by simp [D6];cases b[k]?<;>rfl
 | x::a,[],k=>by simp [D6];cases (x::a)[k]?<;>rfl
 | x::a,y::b,0=>by simp [D6]
 | x::a,y::b,k+1=>by simp only [D6,f6F];exact a9R a b k
theorem b0y{a b:List m8}{v:m8}(h:v∈D6 a b):v∈a\/v∈b:=by
 obtain ⟨k,hk⟩:=f7d h;rw [a9R] at hk;cases ha:a[k]? with
 | none =>
  cases hb:b[k]? with
  | none=>rw [ha,hb] at hk;cases hk
  | some y=>rw [ha,hb] at hk;injection hk with hk;subst hk;exact .inr (f5F hb)
 | some x =>
  cases hb:b[k]? with
  | none=>rw [ha,hb] at hk;injection hk with hk;subst hk;exact .inl (f5F ha)
  | some y =>
   rw [ha,hb] at hk;simp only at hk;cases hd:decide (y.a8>x.a8)
   ·rw [hd] at hk;injection hk with hk;subst hk;exact .inl (f5F ha)
   ·rw [hd] at hk;injection hk with hk;subst hk;exact .inr (f5F hb)
theorem e8h{a b:List m8}(ha:A4 96 T4 a)(hb:A4 96 T4 b)(hla:a.length<=80)(hlb:b.length<=80)(hz:∀v∈b,v.a8<=0->v=v0):b5S a b=some (D6 a b):=by
 have hlen:=a8V a b;unfold b5S;rw [a64 (body:=fun s:(List m8)×Int=>a6V a b s.1 s.2) (D6 a b) (by unfold s9;omega) (fun l=>l) (by
  intro k hk;have hget:=a9R a b k;rw [f5t hk] at hget;have hent:∀v,v∈a\/v∈b->E8 v.g9:=fun v hv=>hv.elim (fun q=>(ha.2 v q).2) (fun q=>(hb.2 v q).2)
  have hj1:∀v:m8,E8 v.g9->b9P ((D6 a b).take k) (k:Int) v=some (.nxt ((D6 a b).take k++[v],m7 ((k:Int)+1))):=by
   intro v hv;unfold b9P;rw [a0D hv,f5s,u7 (by rw [f5L];omega)]
  show a6V a b ((D6 a b).take k) (k:Int)=_
  have hkk:k<a.length\/k<b.length:=by omega
  have hstart:a6V a b ((D6 a b).take k) (k:Int)=b6I a b ((D6 a b).take k) (k:Int):=by
   unfold a6V;by_cases h1:k<a.length
   ·rw [w9 _ k h1];rfl
   ·rw [show decide ((k:Int)<(a.length:Int))=false by simp;omega,w9 _ k (by omega)];rfl
  rw [hstart];unfold b6I;by_cases h1:k<a.length
  ·rw [w9 _ k h1,t8 h1];simp only [cond_true,f5s,l9.go];unfold b78;rw [f5t h1] at hget;by_cases h2:k<b.length
   ·rw [w9 _ k h2,t8 h2];rw [f5t h2] at hget;simp only [cond_true,f5s];injection hget with hget;rw [hget];cases decide (b[k].a8>a[k].a8)
    ·simp only [cond_false,f5s,l9.go];exact hj1 _ (hent _ (.inl (f5v h1)))
    ·simp only [cond_true,f5s,l9.go];exact hj1 _ (hent _ (.inr (f5v h2)))
   ·rw [show decide ((k:Int)<(b.length:Int))=false by simp;omega];rw [f5Q (by omega)] at hget;injection hget with hget;rw [hget];simp only [cond_false,f5s,l9.go];exact hj1 _ (hent _ (.inl (f5v h1)))
  ·have h2:k<b.length:=by omega
   rw [show decide ((k:Int)<(a.length:Int))=false by simp;omega];simp only [cond_false,f5s,l9.go];unfold b78;rw [w9 _ k h2,t8 h2];rw [f5Q (by omega),f5t h2] at hget;injection hget with hget;rw [hget];simp only [cond_true,f5s];by_cases h3:b[k].a8>0
   ·rw [show decide (b[k].a8>0)=true by simpa using h3];simp only [cond_true,f5s,l9.go];exact hj1 _ (hent _ (.inr (f5v h2)))
   ·have hv:=hz _ (f5v h2) (by omega);rw [show decide (b[k].a8>0)=false by simpa using h3];simp only [cond_false,f5s,l9.go];rw [hv];exact hj1 v0 a1d) (by
  show a6V a b (D6 a b) ((D6 a b).length:Int)=_
  unfold a6V;rw [show decide (((D6 a b).length:Int)<(a.length:Int))=false by simp;omega,show decide (((D6 a b).length:Int)<(b.length:Int))=false by simp;omega];rfl)]
 rfl
theorem f2C{b who:Int}(hb:0<=b/\b<=3000)(hw:0<=who/\who<=2):b7k b who=some (L4 b who):=by
 have e:∀i:Int,1<=i->i<=3->a32 b who (b+i)=some (bif decide (b+i<=3000) then (bif f5W (b+i) 3==who then .ret (b+i) else .nxt (b+(i+1))) else .brk ()):=by
  intro i h1 h3;unfold a32;rw [C2 (by omega) (by omega),show decide (b+i<=b+3)=true by simp;omega,cond_true,C2 (by omega) (by omega),Int.add_assoc];cases decide (b+i<=3000)
  ·rfl
  ·cases f5W (b+i) 3==who<;>rfl
 have e4:a32 b who (b+4)=some (.brk ()):=by
  unfold a32;rw [C2 (by omega) (by omega),show decide (b+4<=b+3)=false by simp];rfl
 have e1:=e 1 (by omega) (by omega);have e2:=e 2 (by omega) (by omega);have e3:=e 3 (by omega) (by omega);unfold b7k L4;rw [show decide (b<0)=false by simp;omega,show decide (b>3000)=false by simp;omega,show decide (who<0)=false by simp;omega,show decide (who>=3)=false by simp;omega,C2 (by omega) (by omega)];simp only [cond_false];have hb4:p7 (fun s:Int=>a32 b who s) (b+4)=some (.brk ()):=C9 e4;have h3:p7 (fun s:Int=>a32 b who s) (b+3)=some (bif decide (b+3<=3000)&&(f5W (b+3) 3==who) then .ret (b+3) else .brk ()):=by
  cases q:decide (b+3<=3000)
  ·rw [q] at e3;exact C9 e3
  ·rw [q] at e3;cases t:f5W (b+3) 3==who
   ·rw [t] at e3;rw [E3 e3];exact hb4
   ·rw [t] at e3;exact Y0 e3
 have h2:p7 (fun s:Int=>a32 b who s) (b+2)=some (bif decide (b+2<=3000)&&(f5W (b+2) 3==who) then .ret (b+2) else bif decide (b+3<=3000)&&(f5W (b+3) 3==who) then .ret (b+3) else .brk ()):=by
  cases q:decide (b+2<=3000)
  ·rw [q] at e2;rw [show decide (b+3<=3000)=false by simp at q ⊢;omega];exact C9 e2
  ·rw [q] at e2;cases t:f5W (b+2) 3==who
   ·rw [t] at e2;rw [E3 e2];exact h3
   ·rw [t] at e2;exact Y0 e2
 have h1:p7 (fun s:Int=>a32 b who s) (b+1)=some (bif decide (b+1<=3000)&&(f5W (b+1) 3==who) then .ret (b+1) else bif decide (b+2<=3000)&&(f5W (b+2) 3==who) then .ret (b+2) else bif decide (b+3<=3000)&&(f5W (b+3) 3==who) then .ret (b+3) else .brk ()):=by
  cases q:decide (b+1<=3000)
  ·rw [q] at e1;rw [show decide (b+2<=3000)=false by simp at q ⊢;omega,show decide (b+3<=3000)=false by simp at q ⊢;omega];exact C9 e1
  ·rw [q] at e1;cases t:f5W (b+1) 3==who
   ·rw [t] at e1;rw [E3 e1];exact h2
   ·rw [t] at e1;exact Y0 e1
 rw [h1];cases decide (b+1<=3000)&&(f5W (b+1) 3==who)<;>cases decide (b+2<=3000)&&(f5W (b+2) 3==who)<;>cases decide (b+3<=3000)&&(f5W (b+3) 3==who)<;>rfl
theorem A3{n:Int}(h:-1000000000<=n/\n<=1000000000):I6 n:=⟨by omega,by omega⟩
theorem a0r{α:Type}{b:Nat}{ok:α->Prop}{l:List α}(hl:l.length*b<=1000000000)(h:∀x∈l,ok x):A4 b ok l:=⟨by omega,h⟩
theorem e1t{α:Type}{b:Nat}{ok:α->Prop}{l l':List α}(h:A4 b ok l)(hl:l'.length<=l.length)(hs:∀x∈l',x∈l):A4 b ok l' :=
 ⟨Nat.le_trans (f5Y _ hl) h.1,fun x hx=>h.2 x (hs x hx)⟩
theorem c2Q{l:List m4}{q:n9}:N4 l q=(l.findIdx? (F5 q)).isSome:=by
 unfold N4;cases h:l.findIdx? (F5 q) with
 | none =>
  rw [f7F] at h;rw [Option.isSome_none,f6f];intro x hx;rw [h x hx];simp
 | some k =>
  rw [f6n] at h;obtain ⟨hk,h1,_⟩:=h;rw [Option.isSome_some];exact f6P.2 ⟨l[k],f5v hk,h1⟩
theorem d7Y{n:j6}(h:A4 88 E8 n.a5)(hok:G6 n.a5=true):b73 n=some (U8 n):=by
 obtain ⟨hl,he⟩:=a0J hok;have hf:s9 n.a5:=h.fits (by decide);unfold b73 U8;rw [b8y hf,f5s,c2Q];cases n.i8
 ·rfl
 simp only [f5x,cond_false,cond_true];cases hfi:n.a5.findIdx? (F5 n.b7.a0) with
 | none=>rfl
 | some kk =>
 simp only [Option.isSome_some,f5x,cond_false,d32,f5s];have:=b6F (body:=fun s:(List n7)×Int×Int×List s5=>a9i n s.1 s.2.1 s.2.2.1 s.2.2.2) (fun k=>((q9 (n.a5.take k)).1.g8,(k:Int),(q9 (n.a5.take k)).1.At,(q9 (n.a5.take k)).1.i9)) n.a5 (F5 n.b7.a0) (fun k=>(a5Y n,[⟨n.Id,n.b7.a0,Q0 n.a5 k,bif Q0 n.a5 k==0 then (match n.a5[k]? with|some e=>e.b8.f0|none=>0) else 0⟩])) () (by
   intro k hk;obtain ⟨h1,h2,h3⟩:=T3 hl he k (by omega);unfold a9i c4A F5 Q0;rw [w9 _ k hk,t8 hk,d3G hl he hk,a12 hk,<-F3 hf hk,f5t hk];simp only [cond_true,f5s];rw [show (⟨(q9 (n.a5.take k)).1.At,(q9 (n.a5.take k)).1.g8,(q9 (n.a5.take k)).1.i9⟩:u6)=(q9 (n.a5.take k)).1 from rfl,d28 h1 (by omega) (List.all_eq_true.1 he _ (f5v hk)) (h.2 _ (f5v hk)).f,f5s];cases n.a5[k].i7<;>cases (([n.a5[k].a0.b9,n.a5[k].a0.Seq]:List Int)==[n.b7.a0.b9,n.b7.a0.Seq])<;>first|rfl|skip
   simp only [cond_false,f5x,f5V,f5H,cond_true,f6G];cases ((apply (q9 (n.a5.take k)).1 n.a5[k]).2==0)<;>rfl) (by
   unfold a9i;rw [z9];rfl)
 rw [f6i,hfi] at this;rw [show p7 (fun s:(List n7)×Int×Int×List s5=>a9i n s.1 s.2.1 s.2.2.1 s.2.2.2) (W4.g8,0,W4.At,W4.i9)=_ from this];simp only [f5s,l9.go,T8,hfi];all_goals rfl
theorem e1P{l:List m8}(hf:s9 l)(k:Nat):b7p l (k:Int)=some ((l.drop k).any fun v=>decide (v.a8>0)):=by
 have key:∀(m k:Nat),l.length-k=m->p7 (fun s:Int=>a8k l s) (k:Int)=some (bif (l.drop k).any (fun v=>decide (v.a8>0)) then .ret true else .brk ()):=by
  intro m;induction m with
  | zero =>
   intro k hk;rw [f5S (by omega)];refine C9 ?_;unfold a8k;rw [show decide ((k:Int)<(l.length:Int))=false by simp;omega];rfl
  | succ m ih =>
   intro k hk;have hlt:k<l.length:=by omega
   rw [f5U hlt,f7C];cases hd:decide (l[k].a8>0)
   ·rw [E3 (body:=fun s:Int=>a8k l s) (t:=((k+1:Nat):Int)) (by
     unfold a8k;rw [w9 _ k hlt,t8 hlt,cond_true,f5s,hd,F3 hf hlt];rfl),ih (k+1) (by omega),f6c]
   ·refine Y0 ?_;unfold a8k;rw [w9 _ k hlt,t8 hlt,cond_true,f5s,hd];rfl
 unfold b7p;rw [key _ k rfl];cases (l.drop k).any fun v=>decide (v.a8>0)<;>rfl
theorem c7y(n:j6)(hk:s9 n.a5):∀(q:List m4),A4 88 E8 q->p7 (fun s:List m4=>a9E n s) q=some (match S9 n.a5 q with
  | (q',some e)=>.ret ({n with d9:=q'},e,true)
  | (q',none)=>.brk q')
 | [],h=>C9 rfl
 | e::q,h=>by
  have hb:=h.1;rw [f6y,f6C] at hb;have h':A4 88 E8 q:=⟨by omega,fun x hx=>h.2 x (f7B _ hx)⟩
  have ht:(([]:List m4)++((e::q).drop (0+(1:Int).toNat)).take ((e::q).length-(1:Int).toNat))=q:=by
   simp
  have hs:a9E n (e::q)=some (bif N4 n.a5 e.a0 then .nxt q else .ret ({n with d9:=q},e,true)):=by
   unfold a9E;rw [show decide (((e::q).length:Int)>0)=true by simp,cond_true,show idx (e::q) 0=some e from rfl,f5s,u7 (by simp;omega),u7 (by simp;omega),ht,b8y (n:={n with d9:=q}) hk,f5s];cases N4 n.a5 e.a0<;>rfl
  unfold S9;cases hd:N4 n.a5 e.a0
  ·rw [hd] at hs;exact Y0 hs
  ·rw [hd] at hs;rw [E3 (body:=fun s:List m4=>a9E n s) hs];exact c7y n hk q h'
def b6O(x:j6×Option m4):j6×m4×Bool:=match x with
 | (n,some e)=>(n,e,true)
 | (n,none)=>(n,zE,false)
theorem e9E{n:j6}(h:P5 n):b56 n=some (b6O (a0O n)):=by
 obtain ⟨h1,h2,h3,h4,h5,h6,h7,h8,h9,h10,h11,h12,h13⟩:=h;have hk:s9 n.a5:=h3.fits (by decide);have j1:b5E n=some (b6O ({n with d9:=(S9 n.a5 n.d9).1},(S9 n.a5 n.d9).2)):=by
  unfold b5E;rw [c7y n hk _ h13];obtain ⟨q,o⟩:=S9 n.a5 n.d9;cases o<;>rfl
 have j2:b9R n=some (b6O (a5u n)):=by
  unfold b9R a5u;rw [e1P (h8.fits (by decide)),f5s,b8y hk,a0D h12];generalize (({n with d9:=(S9 n.a5 n.d9).1},(S9 n.a5 n.d9).2):j6×Option m4)=X at j1 ⊢;cases (n.i4.drop n.a5.length).any fun v=>decide (v.a8>0)
  ·simp only [cond_false];cases n.i8
   ·exact j1
   ·cases N4 n.a5 n.b7.a0
    ·rfl
    ·exact j1
  ·rfl
 unfold b56 a0O;by_cases hl:n.a5.length<n.i4.length
 ·rw [w9 _ _ hl,t8 hl,f5t hl];simp only [cond_true,f5s];cases decide (n.i4[n.a5.length].a8>0)
  ·exact j2
  ·simp only [cond_true,a0D (h8.2 _ (f5v hl)).2,f5s,l9.go];rfl
 ·rw [show decide ((n.a5.length:Int)<(n.i4.length:Int))=false by simp;omega,f5Q (by omega)];exact j2
theorem d4k(known:List m4):∀(q:List m4),(S9 known q).1.length<=q.length/\(∀x∈(S9 known q).1,x∈q)/\∀e,(S9 known q).2=some e->e∈q/\N4 known e.a0=false/\(S9 known q).1.length<q.length
 | []=>⟨f5K _,fun x hx=>hx,fun e he=>by cases he⟩
 | e::q=>by
  unfold S9;cases hk:N4 known e.a0
  ·refine ⟨by simp,fun x hx=>by simpa using .inr hx,fun e' he => ?_⟩;injection he with he;subst he;exact ⟨by simp,hk,by simp⟩
  ·obtain ⟨a,b,c⟩:=d4k known q;refine ⟨by simp only [cond_true,f6y];omega,fun x hx=>f7B _ (b x hx),fun e' he => ?_⟩;obtain ⟨x,y,z⟩:=c e' he;exact ⟨f7B _ x,y,by simp only [cond_true,f6y];omega⟩
inductive a2q (n:j6):m4->Prop
 | best (v) (h:n.i4[n.a5.length]?=some v) (hb:v.a8>0):a2q n v.g9
 | gap (v) (h:v∈n.i4.drop n.a5.length) (hb:v.a8>0) (hn:∀v,n.i4[n.a5.length]?=some v->¬v.a8>0):a2q n eN
 | want (h:n.i8=true) (hk:N4 n.a5 n.b7.a0=false) (hn:∀v∈n.i4.drop n.a5.length,¬v.a8>0):a2q n n.b7
 | queue (e) (h:e∈n.d9) (hk:N4 n.a5 e.a0=false) (hn:∀v∈n.i4.drop n.a5.length,¬v.a8>0):a2q n e
theorem b0A(n:j6):∃q:List m4,(a0O n).1={n with d9:=q}/\q.length<=n.d9.length/\(∀x∈q,x∈n.d9)/\∀e,(a0O n).2=some e->a2q n e:=by
 have rest:(∀v,n.i4[n.a5.length]?=some v->¬v.a8>0)->∃q:List m4,(a5u n).1={n with d9:=q}/\q.length<=n.d9.length/\(∀x∈q,x∈n.d9)/\∀e,(a5u n).2=some e->a2q n e:=by
  intro hn;unfold a5u;cases ha:(n.i4.drop n.a5.length).any fun v=>decide (v.a8>0)
  ·have hnv:∀v∈n.i4.drop n.a5.length,¬v.a8>0:=fun v hv=>by simpa using f6f.1 ha v hv
   cases hb:n.i8 && !N4 n.a5 n.b7.a0
   ·obtain ⟨a,b,c⟩:=d4k n.a5 n.d9;exact ⟨_,rfl,a,b,fun e he=>.queue e (c e he).1 (c e he).2.1 hnv⟩
   ·simp only [f5w,f6a] at hb;refine ⟨n.d9,rfl,f5K _,fun _ h=>h,fun e he => ?_⟩;injection he with he;subst he;exact .want hb.1 hb.2 hnv
  ·obtain ⟨v,hv,hb⟩:=f6P.1 ha;refine ⟨n.d9,rfl,f5K _,fun _ h=>h,fun e he => ?_⟩;injection he with he;subst he;exact .gap v hv (by simpa using hb) hn
 unfold a0O;cases hg:n.i4[n.a5.length]? with
 | none=>exact rest (by rw [hg];simp)
 | some v =>
  simp only;cases hb:decide (v.a8>0)
  ·exact rest (by rw [hg];intro w hw;injection hw with hw;subst hw;simpa using hb)
  ·refine ⟨n.d9,rfl,f5K _,fun _ h=>h,fun e he => ?_⟩;injection he with he;subst he;exact .best v hg (by simpa using hb)
theorem a2q.ok{n:j6}(h:P5 n){e:m4}(hn:a2q n e):E8 e:=by
 cases hn with
 | best v hv hb=>exact (h.2.2.2.2.2.2.2.1.2 v (f5F hv)).2
 | gap=>exact d0p
 | want=>exact h.2.2.2.2.2.2.2.2.2.2.2.1
 | queue e hq=>exact h.2.2.2.2.2.2.2.2.2.2.2.2.2 e hq
theorem a8R{k b s:Int}{e:m4}{vs:List m8}(hk:I6 k)(hb:I6 b)(hs:I6 s)(he:E8 e)(hv:A4 96 T4 vs):a0s ⟨k,0,0,b,s,e,vs⟩:=⟨hk,a0n,a0n,hb,hs,he,hv⟩
theorem c3h{id:Int}(h:0<=id/\id<=2):∃y,idx (f5u (3:Int).toNat false) id=some y:=by
 obtain rfl|rfl|rfl:id=0\/id=1\/id=2:=by omega
 all_goals exact ⟨false,rfl⟩
theorem b29{n:j6}(h:P5 n)(hid:0<=n.Id/\n.Id<=2):a60 n=some (M5 n):=by
 unfold a60 M5;rw [show decide ((n.a5.length:Int)>=40)=decide (40<=n.a5.length) by simp;omega];cases n.d7 != 2
 ·simp only [cond_false,f6c];cases hlt:decide (40<=n.a5.length)
  ·simp only [cond_false,e9E h,f5s];obtain ⟨q,hq,hql,hqm,hqe⟩:=b0A n;cases hx:a0O n with
   | mk x o =>
   rw [hx] at hq hqe;have hq:x={n with d9:=q}:=hq;cases o with
   | none=>rfl
   | some e =>
    have he:=(hqe e rfl).ok h;have hlen:n.a5.length<40:=by simpa using hlt
    subst hq;simp only [b6O,f5x,cond_false,d3E he,d3S he,a56];cases K5 n.Acc n.a8 (n.a5.length:Int) e with
    | none=>rfl
    | some a =>
     obtain ⟨y,hy⟩:=c3h hid;simp only [a5p,f5s,f5x,cond_false,a0D he,hy];rw [u7 (by omega),a5L hid (a8R (A3 (by omega)) h.2.2.2.2.2.1 (A3 (by omega)) he U2)];rfl
  ·rfl
 ·rfl
theorem e4d{n:j6}(h:P5 n):P5 (a5Y n):=by
 obtain ⟨h1,h2,h3,h4,h5,h6,h7,h8,h9,h10,h11,h12,h13⟩:=h;exact ⟨h1,h2,h3,h4,h5,h6,h7,h8,h9,h10,U2,a1d,h13⟩
theorem f0i{n:j6}(h:P5 n){e:m4}(he:E8 e)(hl:n.a5.length<=40):P5 (D7 n e):=by
 obtain ⟨h1,h2,h3,h4,h5,h6,h7,h8,h9,h10,h11,h12,h13⟩:=h;have hk:A4 88 E8 (n.a5++[e]):=a0r (by simp;omega) (by
  intro x hx;rcases List.mem_append.1 hx with q|q
  ·exact h3.2 x q
  ·rw [f5y.1 q];exact he)
 unfold D7;cases n.d7==3
 ·exact ⟨h1,h2,hk,h4,h5,h6,h7,h8,h9,h10,h11,h12,h13⟩
 ·exact ⟨h1,h2,hk,h4,A3 (n:=2) (by omega),h6,h7,h8,a1d,U2,h11,h12,h13⟩
theorem a9p(n:j6):(U8 n=(n,[]))\/∃k,n.i8=true/\n.a5.findIdx? (F5 n.b7.a0)=some k/\U8 n=(a5Y n,[⟨n.Id,n.b7.a0,Q0 n.a5 k,bif Q0 n.a5 k==0 then T8 n.a5 n.b7.a0 else 0⟩]):=by
 unfold U8;cases n.i8
 ·exact .inl rfl
 ·cases h:n.a5.findIdx? (F5 n.b7.a0) with
  | none=>exact .inl rfl
  | some k=>exact .inr ⟨k,rfl,rfl,rfl⟩
theorem d9I{n:j6}(h:P5 n):P5 (U8 n).1:=by
 rcases a9p n with q|⟨k,_,_,q⟩<;>rw [q]
 ·exact h
 ·exact e4d h
theorem c6r(n:j6):(U8 n).1.Id=n.Id:=by
 rcases a9p n with q|⟨k,_,_,q⟩<;>rw [q];rfl
theorem b8V(n:j6)(e:m4):(D7 n e).Id=n.Id:=by
 unfold D7;cases n.d7==3<;>rfl
theorem c5C(n:j6)(e:m4):(D7 n e).a5=n.a5++[e]:=by
 unfold D7;cases n.d7==3<;>rfl
theorem d0Y{n:j6}(h:P5 n)(hid:0<=n.Id/\n.Id<=2)(hk:G6 n.a5=true)(hl:n.a5.length<40){e:m4}(he:E8 e)(hok:z5 e=true):b2w n e=some (X8 n e):=by
 have hkn:=f0i h he (by omega);have hko:G6 (D7 n e).a5=true:=by
  rw [c5C];obtain ⟨a,b⟩:=a0J hk;unfold G6;simp only [f5D,f6z,List.all_append,List.all_cons,List.all_nil,b,hok,f6L,Bool.and_self,decide_eq_true_eq];omega
 have hj:∀(p:Int) (c:m4) (vs:List Bool),(⟨n.Id,n.Acc,n.a5++[e],n.Seq,p,n.a8,n.c8,n.i4,c,vs,n.i8,n.i6,n.b7,n.d9⟩:j6)=D7 n e->b8M n e vs c.a0.b9 c.a0.Seq c.b8.b5 c.b8.b6 c.b8.f0 c.b8.Code p c.i7=some (X8 n e):=by
  intro p c vs hq;unfold b8M;rw [show (j6.mk n.Id n.Acc (n.a5++[e]) n.Seq p n.a8 n.c8 n.i4 (m4.mk c.i7 (n9.mk c.a0.b9 c.a0.Seq) (n5.mk c.b8.b5 c.b8.b6 c.b8.f0 c.b8.Code)) vs n.i8 n.i6 n.b7 n.d9)=D7 n e from hq,d7Y hkn.2.2.1 hko,f5s,b29 (d9I hkn) (by rw [c6r,b8V];exact hid),f5s];rfl
 unfold b2w;rw [a0D he,f5s,u7 (by omega)];cases hp:n.d7==3
 ·exact hj n.d7 n.c9 n.a7 (by unfold D7;rw [hp];rfl)
 ·exact hj 2 zE [] (by unfold D7;rw [hp];rfl)
theorem f2U{r:n5}(h:U9 r=true):r.b5.length<=4:=by
 have h0:a7s r.b5=true:=by
  rw [b0b] at h;simp only [f5w] at h;exact h.2.2.2.2.1
 obtain ⟨h1,h2⟩:=d3W.1 h0;let ps:List p6:=r.b5.map fun x=>⟨x.i5,0⟩
 have hp:∀p∈ps,a0h p:=by
  intro p hp;obtain ⟨x,hx,rfl⟩:=List.mem_map.1 hp;exact ⟨(h1 x hx).1,(h1 x hx).2.1,by simp,by simp⟩
 have hpw:ps.Pairwise fun p q=>p.i5≠q.i5:=List.pairwise_map.2 h2
 have hl:=c5e hp;have a:=a62 hpw 0;have b:=a62 hpw 1;have c:=a62 hpw 2;have d:=a62 hpw 3;have:ps.length=r.b5.length:=f6l ..;omega
theorem d8G{r:n5}(h:a3W r ⟨[],[],0,0⟩=true):r=⟨[],[],0,0⟩:=(c4Z _ _).1 h
theorem e7n{e:m4}(h:z5 e=true)(hn:e.i7=true):e=eN:=by
 unfold z5 at h;rw [hn] at h;simp only [cond_true,f5w,beq_iff_eq,List.cons.injEq,and_true] at h;obtain ⟨⟨h1,h2⟩,h3⟩:=h;have h4:=d8G h3;clear h3;obtain ⟨n,⟨a,b⟩,r⟩:=e;simp only at hn h1 h2 h4;subst hn h1 h2 h4;rfl
theorem e6g{r:n5}(h:U9 r=true):b6z r:=by
 obtain ⟨h1,h2,_,h4,h5⟩:=a3d h;have r4:=f2U h;have p4:=e2v h;exact ⟨a0r (by omega) fun x hx=>by have:=h4 x hx;exact ⟨A3 (by omega),A3 (by omega)⟩,
  a0r (by omega) fun x hx=>by have:=h5 x hx;exact ⟨A3 (by omega),A3 (by omega)⟩,A3 (by omega),A3 (by omega)⟩
theorem a3n{e:m4}(h:z5 e=true):E8 e:=by
 cases hn:e.i7 with
 | true=>rw [e7n h hn];exact d0p
 | false =>
  obtain ⟨h1,h2,h3,_⟩:=a3Q h hn;exact ⟨⟨A3 (by omega),A3 (by omega)⟩,e6g h3⟩
theorem d53{l:List m4}(hl:l.length<=1000)(h:∀e∈l,z5 e=true):A4 88 E8 l:=a0r (by omega) fun e he=>a3n (h e he)
def VI(v:m8):Prop:=v=v0\/(1<=v.a8/\v.a8<=3000/\z5 v.g9=true)
theorem e67{v:m8}:a0t v=true↔VI v:=by
 unfold a0t VI;by_cases hb:v.a8=0
 ·simp only [hb,beq_self_eq_true,cond_true,a1c];constructor
  ·intro h;left;obtain ⟨b,e⟩:=v;simp only at hb h;subst hb h;rfl
  ·rintro (h|h)
   ·rw [h];rfl
   ·omega
 ·have:(v.a8==0)=false:=by simpa using hb
  simp only [this,cond_false,f5w,J0];constructor
  ·intro h;exact .inr ⟨h.1.1,h.1.2,h.2⟩
  ·rintro (h|h)
   ·rw [h] at hb;exact absurd rfl hb
   ·exact ⟨⟨h.1,h.2.1⟩,h.2.2⟩
theorem VI.ok{v:m8}(h:VI v):T4 v:=by
 rcases h with rfl|⟨h1,h2,h3⟩
 ·exact c6A
 ·exact ⟨A3 (by omega),a3n h3⟩
theorem VI.bal{v:m8}(h:VI v):0<=v.a8/\v.a8<=3000:=by
 rcases h with rfl|⟨h1,h2,h3⟩
 ·exact ⟨by decide,by decide⟩
 ·exact ⟨by omega,h2⟩
theorem VI.zero{v:m8}(h:VI v)(hb:v.a8<=0):v=v0:=by
 rcases h with rfl|⟨h1,_⟩
 ·rfl
 ·omega
theorem VI.pos{v:m8}(h:VI v)(hb:v.a8>0):z5 v.g9=true:=by
 rcases h with rfl|⟨_,_,h⟩
 ·exact absurd hb (by decide)
 ·exact h
theorem a4f{l:List m8}(hl:l.length<=1000)(h:∀v∈l,VI v):A4 96 T4 l:=a0r (by omega) fun v hv=>(h v hv).ok
theorem a8e{l:List m8}:L1 l=true↔l.length<=40/\∀v∈l,VI v:=by
 unfold L1;simp only [f5w,decide_eq_true_eq,List.all_eq_true,e67]
structure d7i(id bal pr:Int)(best:List m8):Prop where
 b1:1<=bal
 b2:bal<=3000
 mod:f5W bal 3=id
 pr:bal<=pr
 bl:best.length<=40
 bs:∀v∈best,VI v
abbrev Own(n:j6):Prop:=d7i n.Id n.a8 n.Acc.i0 n.i4
def a0M(n:j6):Prop :=
 (n.d7=0/\n.a8=0/\n.c8=[]/\n.i4=[]/\n.c9=zE/\n.a7=[])\/
 (n.d7=1/\Own n/\n.c8.length=3/\n.c8[n.Id.toNat]?=some true/\n.c9=zE/\n.a7=[])\/
 (n.d7=2/\Own n/\n.c8=[]/\n.c9=zE/\n.a7=[])\/
 (n.d7=3/\Own n/\n.c8=[]/\z5 n.c9=true/\n.a7.length=3/\n.a7[n.Id.toNat]?=some true/\n.a5.length<40)
def c0n(n:j6):Prop :=
 (n.i8=true/\E1 n.i6=true/\z5 n.b7=true/\n.b7.i7=false/\n.b7.a0=⟨n.Id,n.Seq⟩)\/(n.i8=false/\n.i6=[]/\n.b7=zE)
structure NI(n:j6):Prop where
 id:0<=n.Id/\n.Id<=2
 pr:0<=n.Acc.i0/\n.Acc.i0<=3000
 vl:n.Acc.a7.length<=40
 vs:∀v∈n.Acc.a7,VI v/\v.a8<=n.Acc.i0
 kl:n.a5.length<=40
 ks:∀e∈n.a5,z5 e=true
 sq:0<=n.Seq/\n.Seq<=1000
 ql:n.d9.length<=4
 qs:∀e∈n.d9,z5 e=true/\e.i7=false
 ld:a0M n
 wt:c0n n
theorem b3o{α:Type}{l:List α}:((l.length:Int)==0)=true↔l=[]:=by
 rw [beq_iff_eq];constructor
 ·intro h;exact f5E (by omega)
 ·rintro rfl;rfl
theorem f0Y{α:Type}{l:List α}:((l.length:Int)=0)↔l=[]:=by rw [<-b3o,beq_iff_eq]
theorem c8O{l:List Bool}{id:Int}(h:0<=id/\id<=2):a43 l id=true↔l.length=3/\l[id.toNat]?=some true:=by
 unfold a43 b8l;have e:idx l id=l[id.toNat]?:=by unfold idx;rw [if_pos h.1]
 rw [e,f5w,beq_iff_eq];constructor
 ·rintro ⟨h1,h2⟩
  refine ⟨by omega,?_⟩;cases hq:l[id.toNat]? with
  | none=>rw [hq] at h2;cases h2
  | some b=>rw [hq] at h2;simp at h2;rw [h2]
 ·rintro ⟨h1,h2⟩
  exact ⟨by omega,by rw [h2];rfl⟩
theorem c0o{n:j6}:a4g n=true↔n.c9=zE/\n.a7=[]:=by
 unfold a4g;rw [f5w,a1c,b3o]
theorem c9s{n:j6}(hid:0<=n.Id/\n.Id<=2):a0z n=true↔a0M n:=by
 have hown:(Z2 n.a8==n.Id)=true/\n.a8<=n.Acc.i0/\L1 n.i4=true↔Own n:=by
  rw [a8e];constructor
  ·rintro ⟨h1,h2,h3⟩
   have hb:=J0.1 (c3n (J0.2 hid) h1);unfold Z2 at h1;rw [J0.2 hb] at h1;exact ⟨hb.1,hb.2,by simpa using h1,h2,h3.1,h3.2⟩
  ·intro h;refine ⟨?_,h.pr,h.bl,h.bs⟩;unfold Z2;rw [J0.2 ⟨h.b1,h.b2⟩];simpa using h.mod
 unfold a0z a0M;by_cases p0:n.d7=0
 ·simp only [p0,beq_self_eq_true,cond_true,f5w,c0o,beq_iff_eq,f0Y];constructor
  ·rintro ⟨a,b,c,d,e⟩;exact .inl ⟨trivial,a,b,c,d,e⟩
  ·rintro (h|h|h|h)
   ·exact ⟨h.2.1,h.2.2.1,h.2.2.2.1,h.2.2.2.2.1,h.2.2.2.2.2⟩
   all_goals exact absurd h.1 (by omega)
 ·have q0:(n.d7==0)=false:=by simpa using p0
  simp only [q0,cond_false,f5w,decide_eq_true_eq];rw [<-and_assoc,<-and_assoc,and_assoc (a:=(Z2 n.a8==n.Id)=true),hown];by_cases p1:n.d7=1
  ·simp only [p1,beq_self_eq_true,cond_true,f5w,c8O hid,c0o];constructor
   ·rintro ⟨a,⟨b,c⟩,d,e⟩;exact .inr (.inl ⟨trivial,a,b,c,d,e⟩)
   ·rintro (h|h|h|h)
    ·exact absurd h.1 (by omega)
    ·exact ⟨h.2.1,⟨h.2.2.1,h.2.2.2.1⟩,h.2.2.2.2.1,h.2.2.2.2.2⟩
    all_goals exact absurd h.1 (by omega)
  ·have q1:(n.d7==1)=false:=by simpa using p1
   by_cases p2:n.d7=2
   ·have q2:(n.d7==2)=true:=by simpa using p2
    simp only [q1,q2,cond_true,cond_false,f5w,b3o,c0o];constructor
    ·rintro ⟨a,b,c,d⟩;exact .inr (.inr (.inl ⟨p2,a,b,c,d⟩))
    ·rintro (h|h|h|h)
     ·exact absurd h.1 (by omega)
     ·exact absurd h.1 (by omega)
     ·exact ⟨h.2.1,h.2.2.1,h.2.2.2.1,h.2.2.2.2⟩
     ·exact absurd h.1 (by omega)
   ·have q2:(n.d7==2)=false:=by simpa using p2
    by_cases p3:n.d7=3
    ·have q3:(n.d7==3)=true:=by simpa using p3
     simp only [q1,q2,q3,cond_true,cond_false,f5w,b3o,c8O hid,decide_eq_true_eq];constructor
     ·rintro ⟨a,b,c,⟨d,e⟩,f⟩;exact .inr (.inr (.inr ⟨p3,a,b,c,d,e,by omega⟩))
     ·rintro (h|h|h|h)
      ·exact absurd h.1 (by omega)
      ·exact absurd h.1 (by omega)
      ·exact absurd h.1 (by omega)
      ·exact ⟨h.2.1,h.2.2.1,h.2.2.2.1,⟨h.2.2.2.2.1,h.2.2.2.2.2.1⟩,by omega⟩
    ·have q3:(n.d7==3)=false:=by simpa using p3
     simp only [q1,q2,q3,cond_false,f6J,and_false,false_iff];rintro (h|h|h|h)<;>omega
theorem a9k{a b:n9}:(([a.b9,a.Seq]:List Int)==[b.b9,b.Seq])=true↔a=b:=by
 obtain ⟨a1,a2⟩:=a;obtain ⟨b1,b2⟩:=b;simp
theorem d2V{n:j6}:a3J n=true↔c0n n:=by
 unfold a3J c0n;cases n.i8
 ·simp only [cond_false,f5w,b3o,a1c,f6J,false_and,false_or,true_and]
 ·simp only [cond_true,f5w,f6a,Bool.true_eq_false,false_and,or_false,true_and];rw [show (([n.b7.a0.b9,n.b7.a0.Seq]:List Int)==[n.Id,n.Seq])=true↔n.b7.a0=⟨n.Id,n.Seq⟩ from a9k (b:=⟨n.Id,n.Seq⟩)]
theorem a1u{n:j6}:D2 n=true↔NI n:=by
 unfold D2 P6 G6 b6g;simp only [f5w,J0,a8e,List.all_eq_true,decide_eq_true_eq,f6a,decide_eq_false_iff_not];constructor
 ·rintro ⟨h1,⟨h2,h3,h4⟩,⟨h5,h6⟩,h7,h8,h9,h10,h11⟩
  exact ⟨h1,h2,h3.1,fun v hv=>⟨h3.2 v hv,by have:=h4 v hv;omega⟩,h5,h6,h7,by omega,h11,(c9s h1).1 h9,d2V.1 h10⟩
 ·intro h;exact ⟨h.id,⟨h.pr,⟨h.vl,fun v hv=>(h.vs v hv).1⟩,fun v hv=>by have:=(h.vs v hv).2;omega⟩,⟨h.kl,h.ks⟩,h.sq,by have:=h.ql;omega,(c9s h.id).2 h.ld,d2V.2 h.wt,h.qs⟩
theorem e3x{i:n8}(h:R0 i=true):b3x i:=by
 unfold R0 at h;by_cases k1:i.a9=1
 ·simp [k1,p9] at h;exact ⟨A3 (by omega),A3 (by omega),A3 (by omega),A3 (by omega)⟩
 by_cases k2:i.a9=2
 ·simp [k2,p9] at h;exact ⟨A3 (by omega),A3 (by omega),A3 (by omega),A3 (by omega)⟩
 by_cases k3:i.a9=3
 ·simp [k3,p9] at h;exact ⟨A3 (by omega),A3 (by omega),A3 (by omega),A3 (by omega)⟩
 by_cases k4:i.a9=4
 ·simp [k4,p9] at h;exact ⟨A3 (by omega),A3 (by omega),A3 (by omega),A3 (by omega)⟩
 by_cases k5:i.a9=5
 ·simp [k5,p9] at h;exact ⟨A3 (by omega),A3 (by omega),A3 (by omega),A3 (by omega)⟩
 by_cases k6:i.a9=6
 ·simp [k6,p9] at h;exact ⟨A3 (by omega),A3 (by omega),A3 (by omega),A3 (by omega)⟩
 by_cases k7:i.a9=7
 ·simp [k7] at h;exact ⟨A3 (by omega),A3 (by omega),A3 (by omega),A3 (by omega)⟩
 ·simp [k1,k2,k3,k4,k5,k6,k7] at h
theorem d31{l:List n8}(h:E1 l=true):A4 32 b3x l:=by
 obtain ⟨h1,h2⟩:=c3j h;exact a0r (by omega) fun i hi=>e3x (h2 i hi)
theorem a0M.phase{n:j6}(h:a0M n):0<=n.d7/\n.d7<=3:=by
 rcases h with h|h|h|h<;>omega
theorem a0M.bal{n:j6}(h:a0M n):0<=n.a8/\n.a8<=3000:=by
 rcases h with h|h|h|h
 ·omega
 all_goals exact ⟨by have:=h.2.1.b1;omega,h.2.1.b2⟩
theorem a0M.best{n:j6}(h:a0M n):n.i4.length<=40/\∀v∈n.i4,VI v:=by
 rcases h with h|h|h|h
 ·rw [h.2.2.2.1];exact ⟨by simp,by simp⟩
 all_goals exact ⟨h.2.1.bl,h.2.1.bs⟩
theorem a0M.from3{n:j6}(h:a0M n):n.c8.length<=3/\n.a7.length<=3/\E8 n.c9:=by
 rcases h with h|h|h|h
 ·rw [h.2.2.1,h.2.2.2.2.2,h.2.2.2.2.1];exact ⟨by simp,by simp,a1d⟩
 ·rw [h.2.2.2.2.2,h.2.2.2.2.1];exact ⟨by omega,by simp,a1d⟩
 ·rw [h.2.2.1,h.2.2.2.1,h.2.2.2.2];exact ⟨by simp,by simp,a1d⟩
 ·rw [h.2.2.1];exact ⟨by simp,by omega,a3n h.2.2.2.1⟩
theorem NI.ok{n:j6}(h:NI n):P5 n:=by
 have hf:=h.ld.from3;have hb:=h.ld.best;have hw:E8 n.b7/\A4 32 b3x n.i6:=by
  rcases h.wt with q|q
  ·exact ⟨a3n q.2.2.1,d31 q.2.1⟩
  ·rw [q.2.1,q.2.2];exact ⟨a1d,U2⟩
 have hph:=h.ld.phase;have hbl:=h.ld.bal;have h1:=h.id;have h2:=h.pr;have h3:=h.sq;have h4:=h.vl;have h5:=h.kl;have h6:=h.ql;exact ⟨A3 (by omega),⟨A3 (by omega),a4f (by omega) fun v hv=>(h.vs v hv).1⟩,d53 (by omega) h.ks,A3 (by omega),A3 (by omega),A3 (by omega),
  a0r (by omega) (fun _ _=>trivial),a4f (by omega) hb.2,hf.2.2,a0r (by omega) (fun _ _=>trivial),hw.2,hw.1,d53 (by omega) fun e he=>(h.qs e he).1⟩
theorem NI.list{n:j6}(h:NI n):G6 n.a5=true:=by
 unfold G6;simp only [f5w,decide_eq_true_eq,List.all_eq_true];exact ⟨h.kl,h.ks⟩
def U4(m:l8):Prop :=
 ((m.a9=1\/m.a9=4)/\(1<=m.a8/\m.a8<=3000)/\m.g9=zE/\m.a7=[])\/
 (m.a9=2/\(1<=m.a8/\m.a8<=3000)/\m.g9=zE/\(m.a7.length<=40/\∀v∈m.a7,VI v)/\m.g7+m.a7.length<=40)\/
 (m.a9=3/\(1<=m.a8/\m.a8<=3000)/\m.g7<40/\z5 m.g9=true/\m.a7=[])\/
 (m.a9=5/\m.a8=0/\m.g7<40/\z5 m.g9=true/\m.a7=[])\/
 (m.a9=6/\(1<=m.a8/\m.a8<=3000)/\m.g7=0/\m.g9=zE/\m.a7=[])\/
 (m.a9=7/\m.a8=0/\m.g7=0/\z5 m.g9=true/\m.g9.i7=false/\m.a7=[])\/
 (m.a9=8/\m.a8=0/\m.g9=zE/\m.a7=[])
structure MI(m:l8):Prop where
 fr:0<=m.c8/\m.c8<=2
 to:0<=m.To/\m.To<=2
 ne:m.c8≠m.To
 sl:0<=m.g7/\m.g7<=40
 kd:U4 m
theorem c9l{m:l8}:Q2 m=true↔MI m:=by
 have hk:(0<=m.g7/\m.g7<=40)->(a66 m=true↔U4 m):=by
  intro hs;have hw:L1 m.a7=true->m7 (m.g7+(m.a7.length:Int))=m.g7+(m.a7.length:Int):=by
   intro hv;have:=(a8e.1 hv).1;exact C2 (by omega) (by omega)
  unfold a66 U4;simp only [Bool.cond_eq_ite];by_cases k1:m.a9=1
  ·simp [k1,J0,a1c]
  by_cases k4:m.a9=4
  ·simp [k4,J0,a1c]
  by_cases k2:m.a9=2
  ·simp only [k2,J0,a1c,beq_self_eq_true,if_true,f5w,decide_eq_true_eq];simp only [show ((2:Int)==1)=false from rfl,show ((2:Int)==4)=false from rfl,f6J,if_false,f5w,J0,a1c,decide_eq_true_eq];constructor
   ·rintro ⟨a,b,c,d⟩
    rw [hw c] at d;exact .inr (.inl ⟨trivial,a,b,a8e.1 c,d⟩)
   ·rintro (h|h|h|h|h|h|h)
    ·omega
    ·have c:=a8e.2 h.2.2.2.1;exact ⟨h.2.1,h.2.2.1,c,by rw [hw c];exact h.2.2.2.2⟩
    all_goals exact absurd h.1 (by omega)
  by_cases k3:m.a9=3
  ·simp [k3,J0]
  by_cases k5:m.a9=5
  ·simp [k5]
  by_cases k6:m.a9=6
  ·simp [k6,J0,a1c]
  by_cases k7:m.a9=7
  ·simp [k7]
  by_cases k8:m.a9=8
  ·simp [k8,a1c]
  ·simp [k1,k2,k3,k4,k5,k6,k7,k8]
 unfold Q2;simp only [f5w,J0,f6a,beq_eq_false_iff_ne];constructor
 ·rintro ⟨a,b,c,d,e⟩;exact ⟨a,b,c,d,(hk d).1 e⟩
 ·intro h;exact ⟨h.fr,h.to,h.ne,h.sl,(hk h.sl).2 h.kd⟩
theorem MI.ok{m:l8}(h:MI m):a0s m:=by
 have hf:=h.fr;have ht:=h.to;have hs:=h.sl;have hk:I6 m.a9/\I6 m.a8/\E8 m.g9/\A4 96 T4 m.a7:=by
  rcases h.kd with q|q|q|q|q|q|q
  ·rw [q.2.2.1,q.2.2.2];exact ⟨A3 (by omega),A3 (by omega),a1d,U2⟩
  ·rw [q.2.2.1];exact ⟨A3 (by omega),A3 (by omega),a1d,a4f (by omega) q.2.2.2.1.2⟩
  ·rw [q.2.2.2.2];exact ⟨A3 (by omega),A3 (by omega),a3n q.2.2.2.1,U2⟩
  ·rw [q.2.2.2.2];exact ⟨A3 (by omega),A3 (by omega),a3n q.2.2.2.1,U2⟩
  ·rw [q.2.2.2.2,q.2.2.2.1];exact ⟨A3 (by omega),A3 (by omega),a1d,U2⟩
  ·rw [q.2.2.2.2.2];exact ⟨A3 (by omega),A3 (by omega),a3n q.2.2.2.1,U2⟩
  ·rw [q.2.2.1,q.2.2.2];exact ⟨A3 (by omega),A3 (by omega),a1d,U2⟩
 exact ⟨hk.1,A3 (by omega),A3 (by omega),hk.2.1,A3 (by omega),hk.2.2.1,hk.2.2.2⟩
structure WI(w:m5):Prop where
 nl:w.a6.length=3
 ns:∀(i:Nat) (n:j6),w.a6[i]?=some n->n.Id=(i:Int)/\NI n
 ml:w.d6.length<=40
 ms:∀m∈w.d6,MI m
 al:w.d8.length<=60
 aq:∀a∈w.d8,Z6 a=true
 tl:w.Told.length<=60
 ts:∀t∈w.Told,T2 t=true
theorem a2e{w:m5}:C3 w=true↔WI w:=by
 unfold C3;simp only [f5w,beq_iff_eq,decide_eq_true_eq,List.all_eq_true,f6B,c9l];constructor
 ·rintro ⟨h1,h2,h3,h4,h5,h6,h7,h8⟩
  refine ⟨by omega,?_,by omega,h6,by omega,h7,by omega,h8⟩;intro i n hn;have hi:=(f5z.1 hn).1;have:=h5 i hi;unfold a4h at this;rw [hn] at this;simp only [f5w,beq_iff_eq,a1u] at this;exact this
 ·intro h;have h2:=h.ml;have h3:=h.al;have h4:=h.tl;refine ⟨by have:=h.nl;omega,by omega,by omega,by omega,?_,h.ms,h.aq,h.ts⟩;intro i hi;unfold a4h;rw [f5t hi];simp only [f5w,beq_iff_eq,a1u];exact h.ns i _ (f5t hi)
theorem e6j{a:x7}(h:Z6 a=true):c9Y a:=by
 unfold Z6 at h;simp only [f5w,J0] at h;exact ⟨⟨A3 (by omega),A3 (by omega)⟩,d31 h.2⟩
theorem f0C{t:m9}(h:T2 t=true):d0o t:=by
 unfold T2 at h;simp only [f5w,J0] at h;exact ⟨A3 (by omega),⟨A3 (by omega),A3 (by omega)⟩,A3 (by omega),A3 (by omega)⟩
theorem WI.ok{w:m5}(h:WI w):U0 w:=by
 have h1:=h.nl;have h2:=h.ml;have h3:=h.al;have h4:=h.tl;refine ⟨a0r (by omega) ?_,a0r (by omega) fun m hm=>(h.ms m hm).ok,a0r (by omega) fun a ha=>e6j (h.aq a ha),a0r (by omega) fun t ht=>f0C (h.ts t ht)⟩;intro n hn;obtain ⟨i,hi⟩:=f7d hn;exact (h.ns i n hi).2.ok
theorem b6L(m o:l8):a4I m o=some [M2 m o]:=rfl
theorem c5Z(n:j6)(b:Int):b4g n b=some (M8 n b):=by
 unfold b4g M8;cases n.d7 != 0
 ·rfl
 ·simp only [cond_true,f5H];cases decide (b>n.a8)<;>rfl
theorem f1A(n:j6)(b:Int):b2S n b=some (M8 n b):=by
 unfold b2S M8;cases n.d7 != 0
 ·rfl
 ·simp only [cond_true,f5H];cases decide (b>n.a8)<;>rfl
theorem d6D(n:j6)(b:Int):(M8 n b).Acc=n.Acc:=by
 unfold M8;cases n.d7 != 0&&decide (b>n.a8)<;>rfl
theorem a4v{a x:z0}{b:Int}(h:H7 a b=some x):x=⟨b,a.a7⟩/\1<=b/\b<=3000/\a.i0<=b:=by
 unfold H7 b0L at h;cases hq:p9 b 1 3000&&decide (a.i0<=b)
 ·rw [hq] at h;cases h
 ·rw [hq] at h;simp only [f5w,J0,decide_eq_true_eq] at hq;injection h with h;exact ⟨h.symm,hq.1.1,hq.1.2,hq.2⟩
theorem c5x{α:Type}(l:List α)(k:Nat):(l.drop k).take (l.length-k)=l.drop k:=by
 rw [f6g];simp
theorem f4z{n:j6}(h:P5 n){m:l8}(hs:0<=m.g7):b8k n m=some (a1E n m):=by
 unfold b8k a1E;rw [c42,b6f];cases hp:H7 n.Acc m.a8 with
 | none=>rfl
 | some a =>
  obtain ⟨rfl,_⟩:=a4v hp;simp only [a5p,f5s,f5x,cond_false,f1A];have ha:=d6D {n with Acc:=⟨m.a8,n.Acc.a7⟩} m.a8;have hy:∀y:j6,y.Acc=⟨m.a8,n.Acc.a7⟩->(j6.mk y.Id (z0.mk y.Acc.i0 n.Acc.a7) y.a5 y.Seq y.d7 y.a8 y.c8 y.i4 y.c9 y.a7 y.i8 y.i6 y.b7 y.d9)=y:=by
   intro y hy;obtain ⟨y1,y2,y3,y4,y5,y6,y7,y8,y9,y10,y11,y12,y13,y14⟩:=y;simp only at hy;subst hy;rfl
  rw [hy _ ha];obtain ⟨k,hk⟩:∃k:Nat,m.g7=(k:Int):=⟨m.g7.toNat,by omega⟩
  rw [hk,f5P,c5x];cases hd:decide ((k:Int)<(n.Acc.a7.length:Int))
  ·simp only [cond_false,b6L,f5s];rw [f5S (by simp at hd;omega)]
  ·simp only [cond_true];rw [u7 (by simp at hd;omega),f4C (e1t h.2.1.2 (by simp) fun x hx=>f6p hx),f5s,b6L,f5s]
theorem d66{n:j6}{m:l8}(hm:a0s m):b5s n m=some (a1S n m):=by
 have he:E8 m.g9:=hm.2.2.2.2.2.1;unfold b5s a1S;rw [d3E he,d3S he];cases K5 n.Acc m.a8 m.g7 m.g9 with
 | none=>rfl
 | some a=>simp only [a5p,f5s,f5x,cond_false,c5Z,b6L]
theorem b5C{l:List Bool}(h:l.length<=3):s9 l:=by unfold s9;omega
theorem e1a{n:j6}(h:NI n){m:l8}(hm:MI m)(hk:m.a9=2):b5Z n m=some (a1V n m):=by
 have hkd:(m.a7.length<=40/\∀v∈m.a7,VI v)/\m.g7+m.a7.length<=40:=by
  rcases hm.kd with q|q|q|q|q|q|q
  ·omega
  ·exact ⟨q.2.2.2.1,q.2.2.2.2⟩
  all_goals exact absurd q.1 (by omega)
 have hs:=hm.sl;have hf:=hm.fr;unfold b5Z a1V;by_cases p1:n.d7=1
 ·rw [show (n.d7 != 1)=false by simp [p1],f6c];simp only [cond_false];cases hb:m.a8 != n.a8
  ·simp only [cond_false];have hl:n.c8.length=3/\Own n:=by
    rcases h.ld with q|q|q|q
    ·omega
    ·exact ⟨q.2.2.1,q.2.1⟩
    all_goals exact absurd q.1 (by omega)
   obtain ⟨f,hff⟩:∃f:Nat,m.c8=(f:Int):=⟨m.c8.toNat,by omega⟩
   have hvo:A4 96 T4 (f5u m.g7.toNat v0++m.a7):=a4f (by simp;omega) (by
    intro v hv;rcases List.mem_append.1 hv with q|q
    ·rw [(f6m.1 q).2];exact .inl rfl
    ·exact hkd.1.2 v q)
   have hz:∀v∈f5u m.g7.toNat v0++m.a7,v.a8<=0->v=v0:=by
    intro v hv hb;rcases List.mem_append.1 hv with q|q
    ·exact (f6m.1 q).2
    ·exact (hkd.1.2 v q).zero hb
   rw [hff,t8 (show f<n.c8.length by omega),f5s,e40 (a4f (by omega) hkd.1.2) hkd.1.1 hs,f5s,e8h (a4f (by have:=hl.2.bl;omega) hl.2.bs) hvo (by have:=hl.2.bl;omega) (by simp;omega) hz,f5s,c6T (b5C (by simp;omega)),f5s];cases htw:N5 (n.c8.set (f:Int).toNat true)
   ·simp only [f5V,cond_true,cond_false]
   ·simp only [f5x,cond_false,cond_true];have hbl:=a8V n.i4 (f5u m.g7.toNat v0++m.a7);have hob:=hl.2.bl;have hlen:(f5u m.g7.toNat v0++m.a7).length<=40:=by simp;omega
    obtain ⟨h1,h2,h3,h4,h5,h6,h7,h8,h9,h10,h11,h12,h13⟩:=h.ok;rw [b29 (n:=⟨n.Id,n.Acc,n.a5,n.Seq,2,n.a8,[],D6 n.i4 (f5u m.g7.toNat v0++m.a7),n.c9,n.a7,n.i8,n.i6,n.b7,n.d9⟩) ⟨h1,h2,h3,h4,A3 (n:=2) (by omega),h6,U2,a4f (by show (D6 n.i4 (f5u m.g7.toNat v0++m.a7)).length<=1000;omega) (fun v hv=>(b0y hv).elim (fun q=>hl.2.bs v q) (fun q=>(List.mem_append.1 q).elim (fun q=>by rw [(f6m.1 q).2];exact .inl rfl) (hkd.1.2 v))),h9,h10,h11,h12,h13⟩ h.id,f5s]
  ·rfl
 ·rw [show (n.d7 != 1)=true by simpa using p1];rfl
theorem a0L(id:Int)(m:l8):(H4 id m).length<=3:=by
 unfold H4;rw [f6l];exact List.length_filter_le _ _
theorem a7P(n:j6):(M5 n).2.length<=3:=by
 unfold M5 a56;cases n.d7 != 2||decide (40<=n.a5.length)
 ·simp only [cond_false];cases a0O n with
  | mk x o =>
   cases o with
   | none=>simp
   | some e =>
    simp only;cases K5 x.Acc x.a8 (x.a5.length:Int) e with
    | none=>simp
    | some a=>exact a0L _ _
 ·simp
theorem e3D{n:j6}(h:NI n){m:l8}(hm:MI m):b8p n m=some (a2M n m):=by
 have hf:=hm.fr;unfold b8p a2M;by_cases p3:n.d7=3
 ·rw [show (n.d7 != 3)=false by simp [p3],f6c];simp only [cond_false];cases hb:m.a8 != n.a8
  ·simp only [cond_false,f6c];cases hs:m.g7 != (n.a5.length:Int)
   ·simp only [cond_false];have hl:n.a7.length=3/\z5 n.c9=true/\n.a5.length<40:=by
     rcases h.ld with q|q|q|q
     ·omega
     ·omega
     ·omega
     ·exact ⟨q.2.2.2.2.1,q.2.2.2.1,q.2.2.2.2.2.2⟩
    obtain ⟨f,hff⟩:∃f:Nat,m.c8=(f:Int):=⟨m.c8.toNat,by omega⟩
    have hcur:=a3n hl.2.1;rw [hff,t8 (show f<n.a7.length by omega),f5s,c6T (b5C (by simp;omega)),f5s];cases htw:N5 (n.a7.set (f:Int).toNat true)
    ·simp only [f5V,cond_true,cond_false]
    ·simp only [f5x,cond_false,cond_true];obtain ⟨h1,h2,h3,h4,h5,h6,h7,h8,h9,h10,h11,h12,h13⟩:=h.ok;rw [a0D hcur,f5s,a5L h.id (a8R (A3 (by omega)) a0n (A3 (by omega)) hcur U2),f5s,
      d0Y (n:={n with a7:=n.a7.set (f:Int).toNat true}) ⟨h1,h2,h3,h4,h5,h6,h7,h8,h9,a0r (by simp;omega) (fun _ _=>trivial),h11,h12,h13⟩ h.id h.list hl.2.2 hcur hl.2.1,f5s,u7]
     have e1:=a0L n.Id ⟨5,0,0,0,(n.a5.length:Int),n.c9,[]⟩;have e2:=a7P (U8 (D7 {n with a7:=n.a7.set (f:Int).toNat true} n.c9)).1;have e3:(X8 {n with a7:=n.a7.set (f:Int).toNat true} n.c9).2.1.length<=3:=e2;omega
   ·rfl
  ·rfl
 ·rw [show (n.d7 != 3)=true by simpa using p3];rfl
theorem e0J{n:j6}(h:NI n){m:l8}(hm:MI m)(hk:m.a9=5):b7l n m=some (a2l n m):=by
 have hkd:m.g7<40/\z5 m.g9=true:=by
  rcases hm.kd with q|q|q|q|q|q|q
  ·omega
  ·omega
  ·omega
  ·exact ⟨q.2.2.1,q.2.2.2.1⟩
  all_goals exact absurd q.1 (by omega)
 unfold b7l a2l;cases h1:decide (m.g7<(n.a5.length:Int))
 ·cases h2:decide (m.g7>(n.a5.length:Int))
  ·simp only [cond_false];have hl:n.a5.length<40:=by simp at h1 h2;omega
   rw [d0Y h.ok h.id h.list hl (a3n hkd.2) hkd.2,f5s]
  ·rfl
 ·rfl
theorem f0D{n:j6}(h:NI n){m:l8}(hm:MI m):b45 n m=some (a0p n m):=by
 have he:E8 m.g9:=hm.ok.2.2.2.2.2.1;have hql:=h.ql;unfold b45 a0p;rw [show decide ((n.d9.length:Int)>=4)=decide (4<=n.d9.length) by simp;omega,b8y (h.ok.2.2.1.fits (by decide)),a0D he];cases n.d7==0
 ·simp only [cond_false,f6c];cases decide (4<=n.d9.length)
  ·simp only [cond_false,f6c,f5s];cases N4 n.a5 m.g9.a0
   ·obtain ⟨h1,h2,h3,h4,h5,h6,h7,h8,h9,h10,h11,h12,h13⟩:=h.ok;simp only [cond_false];rw [u7 (by omega),b29 (n:={n with d9:=n.d9++[m.g9]}) ⟨h1,h2,h3,h4,h5,h6,h7,h8,h9,h10,h11,h12,a0r (by simp;omega) (by
     intro x hx;rcases List.mem_append.1 hx with q|q
     ·exact h13.2 x q
     ·rw [f5y.1 q];exact he)⟩ h.id,f5s]
   ·rfl
  ·rfl
 ·rfl
theorem b7M{n:j6}(m:l8){k:Nat}(hk:k<n.a5.length):a1e n m k=[M2 m ⟨5,0,0,0,(k:Int),n.a5[k],[]⟩]:=by
 unfold a1e;rw [f5t hk]
theorem d1Y{n:j6}(h:NI n)(m:l8):∀(d k:Nat) (o:List l8),n.a5.length-k=d->o.length<=k->p7 (fun s:(List l8)×Int=>a7i n m s.1 s.2) (o,(k:Int))=some (.brk (o++((f5A d).map fun j=>a1e n m (k+j)).flatten))
 | 0,k,o,hd,ho=>by
  have hkl:=h.kl;refine (C9 (b:=o) ?_).trans (by simp);show a7i n m o (k:Int)=_
  unfold a7i;rw [show decide ((k:Int)<(n.a5.length:Int))=false by simp;omega];rfl
 | d+1,k,o,hd,ho=>by
  have hkl:=h.kl;have hlt:k<n.a5.length:=by omega
  have hb:a7i n m o (k:Int)=some (.nxt (o++a1e n m k,((k+1:Nat):Int))):=by
   unfold a7i;rw [w9 _ k hlt,t8 hlt,cond_true,f5s,a0D (a3n (h.ks _ (f5v hlt))),f5s,b6L,f5s,u7 (by simp;omega),b7M m hlt,F3 (h.ok.2.2.1.fits (by decide)) hlt]
  rw [E3 (body:=fun s:(List l8)×Int=>a7i n m s.1 s.2) (s:=(o,(k:Int))) hb,d1Y h m d (k+1) _ (by omega) (by rw [b7M m hlt];simp;omega)];rw [List.range_succ_eq_map,f6b,f5X,f5J,f7s];simp only [f6X,Function.comp_def,Nat.succ_eq_add_one,Nat.add_assoc,Nat.add_comm 1]
theorem e8Q{n:j6}(h:NI n){m:l8}(hs:0<=m.g7):b74 n m=some (a2N n m,n):=by
 unfold b74 a2N;obtain ⟨k,hk⟩:∃k:Nat,m.g7=(k:Int):=⟨m.g7.toNat,by omega⟩
 rw [hk];have:=d1Y h m (n.a5.length-k) k [] rfl (by simp);rw [this];rfl
theorem e5e{n:j6}(h:NI n){m:l8}(hm:MI m):b5e n m=some (U1 n m):=by
 unfold b5e U1;rw [f4z h.ok hm.sl.1,d66 hm.ok,e3D h hm,f0D h hm,e8Q h hm.sl.1,b6f];by_cases k1:m.a9=1
 ·simp [k1];rfl
 rw [show (m.a9==1)=false by simpa using k1];by_cases k2:m.a9=2
 ·rw [e1a h hm k2];simp [k2];rfl
 rw [show (m.a9==2)=false by simpa using k2];by_cases k3:m.a9=3
 ·simp [k3];rfl
 rw [show (m.a9==3)=false by simpa using k3];by_cases k4:m.a9=4
 ·simp [k4];rfl
 rw [show (m.a9==4)=false by simpa using k4];by_cases k5:m.a9=5
 ·rw [e0J h hm k5];simp [k5];rfl
 rw [show (m.a9==5)=false by simpa using k5];by_cases k6:m.a9=6
 ·rw [show (m.a9==6)=true by simpa using k6];simp only [cond_true,cond_false,f5s];cases H7 n.Acc m.a8<;>simp only [c5Z,f5s,Option.getD_none,f6G]<;>rfl
 rw [show (m.a9==6)=false by simpa using k6];by_cases k7:m.a9=7
 ·simp [k7];rfl
 rw [show (m.a9==7)=false by simpa using k7];cases m.a9==8
 ·rfl
 ·simp only [cond_true,cond_false,f5s];rw [u7 trivial,u7 trivial,u7 trivial,u7 trivial,u7 trivial];rfl
theorem b63{a x:z0}{b s:Int}{e:m4}(h:K5 a b s e=some x):∃k:Nat,s=(k:Int)/\k<40/\z5 e=true/\1<=b/\b<=3000/\a.i0<=b/\x=⟨b,(S7 a.a7 (k+1)).set k ⟨b,e⟩⟩:=by
 unfold K5 at h;cases hq:p9 s 0 39&&z5 e
 ·rw [hq] at h;cases h
 ·rw [hq,cond_true] at h;simp only [f5w,J0] at hq;cases hp:H7 a b with
  | none=>rw [hp] at h;cases h
  | some y =>
   rw [hp] at h;obtain ⟨rfl,h1,h2,h3⟩:=a4v hp;injection h with h;refine ⟨s.toNat,by omega,by omega,hq.2,h1,h2,h3,h.symm⟩
theorem b4J{a:z0}{b:Int}(h1:1<=b)(h2:b<=3000)(h3:a.i0<=b):H7 a b=some ⟨b,a.a7⟩:=by
 unfold H7 b0L;rw [J0.2 ⟨h1,h2⟩,show decide (a.i0<=b)=true by simpa using h3];rfl
theorem e4S{a:z0}{b:Int}{k:Nat}{e:m4}(hk:k<40)(he:z5 e=true)(h1:1<=b)(h2:b<=3000)(h3:a.i0<=b):K5 a b (k:Int) e=some ⟨b,(S7 a.a7 (k+1)).set k ⟨b,e⟩⟩:=by
 unfold K5;rw [J0.2 (show 0<=(k:Int)/\(k:Int)<=39 by omega),he,b4J h1 h2 h3];rfl
theorem c0E{vs:List m8}{n:Nat}{v:m8}(h:v∈S7 vs n):v∈vs\/v=v0:=by
 rcases List.mem_append.1 h with q|q
 ·exact .inl q
 ·exact .inr (f6m.1 q).2
theorem c7T{α:Type}{l:List α}{k:Nat}{x v:α}(h:v∈l.set k x):v∈l\/v=x:=List.mem_or_eq_of_mem_set h
theorem NI.queue{n:j6}(h:NI n){q:List m4}(hl:q.length<=4)(hm:∀e∈q,z5 e=true/\e.i7=false):NI {n with d9:=q} :=
 ⟨h.id,h.pr,h.vl,h.vs,h.kl,h.ks,h.sq,hl,hm,h.ld,h.wt⟩
theorem NI.down{n:j6}(h:NI n):NI (a4q n) :=
 ⟨h.id,h.pr,h.vl,h.vs,h.kl,h.ks,h.sq,h.ql,h.qs,.inl ⟨rfl,rfl,rfl,rfl,rfl,rfl⟩,h.wt⟩
theorem NI.freeN{n:j6}(h:NI n):NI (a5Y n) :=
 ⟨h.id,h.pr,h.vl,h.vs,h.kl,h.ks,h.sq,h.ql,h.qs,h.ld,.inr ⟨rfl,rfl,rfl⟩⟩
theorem NI.acc{n:j6}(h:NI n){a:z0}(h1:0<=a.i0/\a.i0<=3000)(h2:a.a7.length<=40)(h3:∀v∈a.a7,VI v/\v.a8<=a.i0)(h4:n.Acc.i0<=a.i0):NI {n with Acc:=a}:=by
 have ho:Own n->Own {n with Acc:=a}:=fun o=>⟨o.b1,o.b2,o.mod,f6q o.pr h4,o.bl,o.bs⟩
 refine ⟨h.id,h1,h2,h3,h.kl,h.ks,h.sq,h.ql,h.qs,?_,h.wt⟩;rcases h.ld with q|q|q|q
 ·exact .inl q
 ·exact .inr (.inl ⟨q.1,ho q.2.1,q.2.2⟩)
 ·exact .inr (.inr (.inl ⟨q.1,ho q.2.1,q.2.2⟩))
 ·exact .inr (.inr (.inr ⟨q.1,ho q.2.1,q.2.2⟩))
theorem NI.promise{n:j6}(h:NI n){b:Int}{x:z0}(hp:H7 n.Acc b=some x):NI {n with Acc:=x}:=by
 obtain ⟨rfl,h1,h2,h3⟩:=a4v hp;exact h.acc ⟨by simp only;omega,h2⟩ h.vl (fun v hv=>⟨(h.vs v hv).1,f6q (h.vs v hv).2 h3⟩) h3
theorem f4A{vs:List m8}{p b:Int}{k:Nat}{e:m4}(hk:k<40)(hl:vs.length<=40)(hv:∀v∈vs,VI v/\v.a8<=p)(he:z5 e=true)(h1:1<=b)(h2:b<=3000)(h3:p<=b) :
  ((S7 vs (k+1)).set k ⟨b,e⟩).length<=40/\∀v∈(S7 vs (k+1)).set k ⟨b,e⟩,VI v/\v.a8<=b:=by
 refine ⟨by rw [f6M,b4P];omega,fun v hm => ?_⟩;rcases c7T hm with q|q
 ·rcases c0E q with q|q
  ·exact ⟨(hv v q).1,f6q (hv v q).2 h3⟩
  ·rw [q];exact ⟨.inl rfl,by show (0:Int)<=b;omega⟩
 ·rw [q];exact ⟨.inr ⟨h1,h2,he⟩,f5R _⟩
theorem NI.cast{n:j6}(h:NI n){b s:Int}{e:m4}{x:z0}(hc:K5 n.Acc b s e=some x):NI {n with Acc:=x}:=by
 obtain ⟨k,rfl,hk,he,h1,h2,h3,rfl⟩:=b63 hc;obtain ⟨a,b'⟩:=f4A hk h.vl h.vs he h1 h2 h3;exact h.acc ⟨by simp only;omega,h2⟩ a b' h3
theorem NI.yield{n:j6}(h:NI n)(b:Int):NI (M8 n b):=by
 unfold M8;cases n.d7 != 0&&decide (b>n.a8)
 ·exact h
 ·exact h.down
theorem c4U{id:Int}(h:0<=id/\id<=2):(a1g id).length=3/\(a1g id)[id.toNat]?=some true:=by
 unfold a1g;refine ⟨by simp,?_⟩;rw [f6v (by simp;omega)]
theorem a2q.right{n:j6}(h:NI n){e:m4}(hn:a2q n e):z5 e=true:=by
 cases hn with
 | best v hv hb=>exact (h.ld.best.2 v (f5F hv)).pos hb
 | gap=>rfl
 | want hb =>
  rcases h.wt with q|q
  ·exact q.2.2.1
  ·rw [hb] at q;cases q.1
 | queue e hq=>exact (h.qs e hq).1
theorem a3L{id:Int}{m x:l8}(hid:0<=id/\id<=2)(h:x∈H4 id m):∃t:Int,0<=t/\t<=2/\t≠id/\x={m with c8:=id,To:=t}:=by
 unfold H4 at h;obtain ⟨t,ht,rfl⟩:=List.mem_map.1 h;obtain ⟨h1,h2⟩:=List.mem_filter.1 ht;refine ⟨t,?_,?_,by simpa using h2,rfl⟩;all_goals simp at h1;omega
theorem a5Q{id:Int}{m:l8}(hid:0<=id/\id<=2)(hk:U4 m)(hs:0<=m.g7/\m.g7<=40):∀x∈H4 id m,MI x:=by
 intro x hx;obtain ⟨t,h1,h2,h3,rfl⟩:=a3L hid hx;exact ⟨hid,⟨h1,h2⟩,fun q=>h3 q.symm,hs,hk⟩
theorem b0a{m o:l8}(hm:MI m)(hk:U4 o)(hs:0<=o.g7/\o.g7<=40):MI (M2 m o):=⟨hm.to,hm.fr,fun q=>hm.ne q.symm,hs,hk⟩
theorem U4.one{k b s:Int}(hk:k=1\/k=4)(hb:1<=b/\b<=3000):U4 ⟨k,0,0,b,s,zE,[]⟩:=.inl ⟨hk,hb,rfl,rfl⟩
theorem U4.accept{b s:Int}{e:m4}(hb:1<=b/\b<=3000)(hs:s<40)(he:z5 e=true):U4 ⟨3,0,0,b,s,e,[]⟩:=.inr (.inr (.inl ⟨rfl,hb,hs,he,rfl⟩))
theorem U4.chosen{s:Int}{e:m4}(hs:s<40)(he:z5 e=true):U4 ⟨5,0,0,0,s,e,[]⟩:=.inr (.inr (.inr (.inl ⟨rfl,rfl,hs,he,rfl⟩)))
theorem U4.refuse{b:Int}(hb:1<=b/\b<=3000):U4 ⟨6,0,0,b,0,zE,[]⟩:=.inr (.inr (.inr (.inr (.inl ⟨rfl,hb,rfl,rfl,rfl⟩))))
theorem U4.ask{e:m4}(he:z5 e=true)(hn:e.i7=false):U4 ⟨7,0,0,0,0,e,[]⟩:=.inr (.inr (.inr (.inr (.inr (.inl ⟨rfl,rfl,rfl,he,hn,rfl⟩)))))
theorem U4.need{s:Int}:U4 ⟨8,0,0,0,s,zE,[]⟩:=.inr (.inr (.inr (.inr (.inr (.inr ⟨rfl,rfl,rfl,rfl⟩)))))
structure S8(n:j6)(x:j6×List l8):Prop where
 ni:NI x.1
 id:x.1.Id=n.Id
 ms:∀m∈x.2,MI m
theorem S8.same{n:j6}(h:NI n):S8 n (n,[]):=⟨h,rfl,by simp⟩
theorem S8.to{n n':j6}(hi:n'.Id=n.Id){x:j6×List l8}(h:S8 n' x):S8 n x:=⟨h.ni,h.id.trans hi,h.ms⟩
theorem b0G{n:j6}(h:NI n):S8 n (M5 n):=by
 unfold M5;cases hc:n.d7 != 2||decide (40<=n.a5.length)
 ·simp only [cond_false];simp only [f6D,bne_eq_false_iff_eq,decide_eq_false_iff_not] at hc;obtain ⟨q,hq,hql,hqm,hqe⟩:=b0A n;cases hx:a0O n with
  | mk x o =>
  rw [hx] at hq hqe;have hq:x={n with d9:=q}:=hq;have hn:NI {n with d9:=q}:=h.queue (by have:=h.ql;omega) fun e he=>h.qs e (hqm e he)
  subst hq;cases o with
  | none=>exact ⟨hn,rfl,by simp⟩
  | some e =>
   have he:=(hqe e rfl).right h;simp only [a56];have ho:Own n:=by
    rcases h.ld with q|q|q|q
    ·omega
    ·omega
    ·exact q.2.1
    ·omega
   cases hcs:K5 n.Acc n.a8 (n.a5.length:Int) e with
   | none=>exact ⟨hn.down,rfl,by simp⟩
   | some a =>
    have hac:=hn.cast (b:=n.a8) (s:=(n.a5.length:Int)) (e:=e) hcs;obtain ⟨k,hk,hk40,_,h1,h2,h3,rfl⟩:=b63 hcs;refine ⟨⟨h.id,hac.pr,hac.vl,hac.vs,h.kl,h.ks,h.sq,hn.ql,hn.qs,?_,h.wt⟩,rfl,a5Q h.id (.accept ⟨h1,h2⟩ (by omega) he) (by simp only;omega)⟩;refine .inr (.inr (.inr ⟨rfl,⟨ho.b1,ho.b2,ho.mod,f5R _,ho.bl,ho.bs⟩,?_,he,(c4U h.id).1,(c4U h.id).2,by simp only;omega⟩));rcases h.ld with q|q|q|q
    ·omega
    ·omega
    ·exact q.2.2.1
    ·omega
 ·exact .same h
theorem NI.know{n:j6}(h:NI n){e:m4}(he:z5 e=true)(hl:n.a5.length<40):NI (D7 n e):=by
 have hks:∀x∈n.a5++[e],z5 x=true:=by
  intro x hx;rcases List.mem_append.1 hx with q|q
  ·exact h.ks x q
  ·rw [f5y.1 q];exact he
 have hkl:(n.a5++[e]).length<=40:=by simp;omega
 unfold D7;by_cases p3:n.d7=3
 ·rw [show (n.d7==3)=true by simpa using p3];refine ⟨h.id,h.pr,h.vl,h.vs,hkl,hks,h.sq,h.ql,h.qs,?_,h.wt⟩;rcases h.ld with q|q|q|q
  ·omega
  ·omega
  ·omega
  ·exact .inr (.inr (.inl ⟨rfl,⟨q.2.1.b1,q.2.1.b2,q.2.1.mod,q.2.1.pr,q.2.1.bl,q.2.1.bs⟩,q.2.2.1,rfl,rfl⟩))
 ·rw [show (n.d7==3)=false by simpa using p3];refine ⟨h.id,h.pr,h.vl,h.vs,hkl,hks,h.sq,h.ql,h.qs,?_,h.wt⟩;rcases h.ld with q|q|q|q
  ·exact .inl q
  ·exact .inr (.inl ⟨q.1,⟨q.2.1.b1,q.2.1.b2,q.2.1.mod,q.2.1.pr,q.2.1.bl,q.2.1.bs⟩,q.2.2⟩)
  ·exact .inr (.inr (.inl ⟨q.1,⟨q.2.1.b1,q.2.1.b2,q.2.1.mod,q.2.1.pr,q.2.1.bl,q.2.1.bs⟩,q.2.2⟩))
  ·exact absurd q.1 p3
theorem e3J{s:u6}{e:m4}(hn:e.i7=false):0<=(apply s e).2/\(apply s e).2<=4:=by
 have hf:0<=(N7 s e).2/\(N7 s e).2<=4:=by
  unfold N7;cases a0W s.g8 e.b8
  ·exact ⟨by simp,by simp⟩
  ·cases e.b8.Code==0<;>exact ⟨by simp,by simp⟩
 unfold apply;rw [hn];simp only [cond_false];cases s.i9.find? fun d=>d.a0.b9==e.a0.b9 with
 | none=>exact hf
 | some d =>
  simp only;cases d.a0.Seq==e.a0.Seq
  ·cases decide (d.a0.Seq>e.a0.Seq)
   ·exact hf
   ·exact ⟨by simp,by simp⟩
  ·exact ⟨by simp,by simp⟩
theorem b21{l:List m4}{q:n9}{k:Nat}(h:l.findIdx? (F5 q)=some k):∃hk:k<l.length,l[k].i7=false/\l[k].a0=q:=by
 rw [f6n] at h;obtain ⟨hk,h1,_⟩:=h;unfold F5 at h1;simp only [f5w,f6a] at h1;exact ⟨hk,h1.1,a9k.1 h1.2⟩
theorem c3E{l:List m4}(h:G6 l=true){k:Nat}(hk:k<l.length):Q0 l k=(apply (q9 (l.take k)).1 l[k]).2:=by
 obtain ⟨a,b⟩:=a0J h;unfold Q0;rw [d3G a b hk];rfl
theorem e9B{l:List m4}(h:∀e∈l,z5 e=true)(q:n9):-1000000<=T8 l q/\T8 l q<=1000000:=by
 unfold T8;cases hf:l.findIdx? (F5 q) with
 | none=>exact ⟨by simp,by simp⟩
 | some k =>
  obtain ⟨hk,h1,h2⟩:=b21 hf;simp only [f5t hk];exact (a3d (a3Q (h _ (f5v hk)) h1).2.2.1).2.1
theorem e8p{n:j6}(h:NI n):NI (U8 n).1/\∀t∈(U8 n).2,T2 t=true:=by
 rcases a9p n with q|⟨k,hb,hk,q⟩<;>rw [q]
 ·exact ⟨h,by simp⟩
 ·refine ⟨h.freeN,fun t ht => ?_⟩;obtain ⟨hkl,h1,h2⟩:=b21 hk;have ht:=f5y.1 ht;subst ht;have hw:n.b7.a0=⟨n.Id,n.Seq⟩/\z5 n.b7=true/\n.b7.i7=false:=by
   rcases h.wt with q|q
   ·exact ⟨q.2.2.2.2,q.2.2.1,q.2.2.2.1⟩
   ·rw [hb] at q;cases q.1
  obtain ⟨w1,w2,_⟩:=a3Q hw.2.1 hw.2.2;have hc:=e3J (s:=(q9 (n.a5.take k)).1) h1;rw [<-c3E h.list hkl] at hc;have hv:=e9B h.ks n.b7.a0;unfold T2;simp only [f5w,J0,beq_iff_eq];refine ⟨h.id,⟨w1,w2⟩,by rw [hw.1],hc,?_⟩;cases Q0 n.a5 k==0
  ·exact ⟨by simp,by simp⟩
  ·exact hv
structure a6R(n:j6)(x:j6×List l8×List m9):Prop where
 ni:NI x.1
 id:x.1.Id=n.Id
 ms:∀m∈x.2.1,MI m
 ts:∀t∈x.2.2,T2 t=true
theorem S8.three{n:j6}{x:j6×List l8}(h:S8 n x):a6R n (x.1,x.2,[]):=⟨h.ni,h.id,h.ms,by simp⟩
theorem a6R.same{n:j6}(h:NI n):a6R n (n,[],[]):=⟨h,rfl,by simp,by simp⟩
theorem c8D{n:j6}(h:NI n){e:m4}(he:z5 e=true)(hl:n.a5.length<40):a6R n (X8 n e):=by
 have h1:=h.know he hl;obtain ⟨h2,h3⟩:=e8p h1;have h4:=b0G h2;exact ⟨h4.ni,h4.id.trans ((c6r _).trans (b8V _ _)),h4.ms,h3⟩
theorem e77{a:z0}{b:Int}(h:H7 a b=none)(hb:1<=b/\b<=3000):b<a.i0:=by
 by_cases q:a.i0<=b
 ·rw [b4J hb.1 hb.2 q] at h;cases h
 ·omega
theorem d0y{n:j6}(h:NI n){m:l8}(hm:MI m)(hk:m.a9=1):S8 n (a1E n m):=by
 have hb:1<=m.a8/\m.a8<=3000:=by
  rcases hm.kd with q|q|q|q|q|q|q
  ·exact q.2.1
  all_goals exact absurd q.1 (by omega)
 have hs:=hm.sl;unfold a1E;cases hp:H7 n.Acc m.a8 with
 | none =>
  have:=e77 hp hb;refine ⟨h,rfl,fun x hx => ?_⟩;rw [f5y.1 hx];exact b0a hm (.refuse (by have:=h.pr;omega)) (by simp)
 | some a =>
  have hn:=(h.promise hp).yield m.a8;obtain ⟨rfl,_⟩:=a4v hp;refine ⟨hn,?_,fun x hx => ?_⟩
  ·simp only [M8];cases n.d7 != 0&&decide (m.a8>n.a8)<;>rfl
  ·rw [f5y.1 hx];have hvl:=h.vl;refine b0a hm (.inr (.inl ⟨rfl,hb,rfl,⟨by simp;omega,fun v hv=>(h.vs v (f6p hv)).1⟩,by simp;omega⟩)) hs
theorem a6c(n:j6)(b:Int):(M8 n b).Id=n.Id:=by
 unfold M8;cases n.d7 != 0&&decide (b>n.a8)<;>rfl
theorem d9H{a:z0}{b:Int}{k:Nat}{e:m4}(h:K5 a b (k:Int) e=none)(hk:k<40)(he:z5 e=true)(hb:1<=b/\b<=3000):b<a.i0:=by
 by_cases q:a.i0<=b
 ·rw [e4S hk he hb.1 hb.2 q] at h;cases h
 ·omega
theorem c7Z{n:j6}(h:NI n){m:l8}(hm:MI m)(hk:m.a9=3):S8 n (a1S n m):=by
 have hb:(1<=m.a8/\m.a8<=3000)/\m.g7<40/\z5 m.g9=true:=by
  rcases hm.kd with q|q|q|q|q|q|q
  ·omega
  ·omega
  ·exact ⟨q.2.1,q.2.2.1,q.2.2.2.1⟩
  all_goals exact absurd q.1 (by omega)
 have hs:=hm.sl;obtain ⟨k,hsk⟩:∃k:Nat,m.g7=(k:Int):=⟨m.g7.toNat,by omega⟩
 unfold a1S;cases hp:K5 n.Acc m.a8 m.g7 m.g9 with
 | none =>
  rw [hsk] at hp;have:=d9H hp (by omega) hb.2.2 hb.1;refine ⟨h,rfl,fun x hx => ?_⟩;rw [f5y.1 hx];exact b0a hm (.refuse (by have:=h.pr;omega)) (by simp)
 | some a =>
  refine ⟨(h.cast hp).yield m.a8,a6c _ _,fun x hx => ?_⟩;rw [f5y.1 hx];exact b0a hm (.one (.inr rfl) hb.1) hs
theorem c5M{n:j6}(h:NI n){m:l8}(hm:MI m)(hk:m.a9=2):S8 n (a1V n m):=by
 have hkd:(m.a7.length<=40/\∀v∈m.a7,VI v)/\m.g7+m.a7.length<=40:=by
  rcases hm.kd with q|q|q|q|q|q|q
  ·omega
  ·exact ⟨q.2.2.2.1,q.2.2.2.2⟩
  all_goals exact absurd q.1 (by omega)
 have hs:=hm.sl;have hf:=hm.fr;unfold a1V;cases hc:n.d7 != 1||m.a8 != n.a8
 ·simp only [f6D,bne_eq_false_iff_eq] at hc;simp only [cond_false];have hl:Own n/\n.c8.length=3/\n.c8[n.Id.toNat]?=some true/\n.c9=zE/\n.a7=[]:=by
   rcases h.ld with q|q|q|q
   ·omega
   ·exact q.2
   all_goals exact absurd q.1 (by omega)
  have hbl:=a8V n.i4 (f5u m.g7.toNat v0++m.a7);have hob:=hl.1.bl;have hlen:(f5u m.g7.toNat v0++m.a7).length<=40:=by simp;omega
  have hbs:∀v∈D6 n.i4 (f5u m.g7.toNat v0++m.a7),VI v:=fun v hv=>(b0y hv).elim (fun q=>hl.1.bs v q) (fun q=>(List.mem_append.1 q).elim (fun q=>by rw [(f6m.1 q).2];exact .inl rfl) (hkd.1.2 v))
  cases N5 (n.c8.set m.c8.toNat true)
  ·simp only [cond_false];refine ⟨⟨h.id,h.pr,h.vl,h.vs,h.kl,h.ks,h.sq,h.ql,h.qs,.inr (.inl ⟨hc.1,⟨hl.1.b1,hl.1.b2,hl.1.mod,hl.1.pr,by show (D6 _ _).length<=40;omega,hbs⟩,by simp [hl.2.1],?_,hl.2.2.2.1,hl.2.2.2.2⟩),h.wt⟩,rfl,by simp⟩;show (n.c8.set m.c8.toNat true)[n.Id.toNat]?=some true
   by_cases q:m.c8.toNat=n.Id.toNat
   ·rw [q,f6v (by have:=h.id;omega)]
   ·rw [f5N q];exact hl.2.2.1
  ·simp only [cond_true];refine S8.to (n:=n) (n':={n with c8:=[],i4:=D6 n.i4 (f5u m.g7.toNat v0++m.a7),d7:=2}) rfl (b0G ?_);exact ⟨h.id,h.pr,h.vl,h.vs,h.kl,h.ks,h.sq,h.ql,h.qs,.inr (.inr (.inl ⟨rfl,⟨hl.1.b1,hl.1.b2,hl.1.mod,hl.1.pr,by show (D6 _ _).length<=40;omega,hbs⟩,rfl,hl.2.2.2.1,hl.2.2.2.2⟩)),h.wt⟩
 ·exact .same h
theorem c8N{n:j6}(h:NI n){m:l8}(hm:MI m):a6R n (a2M n m):=by
 have hf:=hm.fr;unfold a2M;cases hc:n.d7 != 3||(m.a8 != n.a8||m.g7 != (n.a5.length:Int))
 ·simp only [f6D,bne_eq_false_iff_eq] at hc;simp only [cond_false];have hl:Own n/\n.c8=[]/\z5 n.c9=true/\n.a7.length=3/\n.a7[n.Id.toNat]?=some true/\n.a5.length<40:=by
   rcases h.ld with q|q|q|q
   ·omega
   ·omega
   ·omega
   ·exact q.2
  have hn:NI {n with a7:=n.a7.set m.c8.toNat true}:=by
   refine ⟨h.id,h.pr,h.vl,h.vs,h.kl,h.ks,h.sq,h.ql,h.qs,.inr (.inr (.inr ⟨hc.1,⟨hl.1.b1,hl.1.b2,hl.1.mod,hl.1.pr,hl.1.bl,hl.1.bs⟩,hl.2.1,hl.2.2.1,by simp [hl.2.2.2.1],?_,hl.2.2.2.2.2⟩)),h.wt⟩;show (n.a7.set m.c8.toNat true)[n.Id.toNat]?=some true
   by_cases q:m.c8.toNat=n.Id.toNat
   ·rw [q,f6v (by have:=h.id;omega)]
   ·rw [f5N q];exact hl.2.2.2.2.1
  cases N5 (n.a7.set m.c8.toNat true)
  ·exact ⟨hn,rfl,by simp,by simp⟩
  ·simp only [cond_true];have hr:=c8D hn hl.2.2.1 hl.2.2.2.2.2;refine ⟨hr.ni,hr.id,fun x hx => ?_,hr.ts⟩;rcases List.mem_append.1 hx with q|q
   ·exact a5Q h.id (.chosen (by omega) hl.2.2.1) (by simp only;omega) x q
   ·exact hr.ms x q
 ·exact .same h
theorem d21{n:j6}(h:NI n){m:l8}(hm:MI m)(hk:m.a9=5):a6R n (a2l n m):=by
 have hkd:m.g7<40/\z5 m.g9=true:=by
  rcases hm.kd with q|q|q|q|q|q|q
  ·omega
  ·omega
  ·omega
  ·exact ⟨q.2.2.1,q.2.2.2.1⟩
  all_goals exact absurd q.1 (by omega)
 have hkl:=h.kl;unfold a2l;cases h1:decide (m.g7<(n.a5.length:Int))
 ·cases h2:decide (m.g7>(n.a5.length:Int))
  ·simp only [decide_eq_false_iff_not] at h1 h2;exact c8D h hkd.2 (by omega)
  ·refine ⟨h,rfl,fun x hx => ?_,by simp⟩;rw [f5y.1 hx];exact b0a hm .need (by simp only;omega)
 ·exact .same h
theorem e1g{n:j6}(h:NI n){m:l8}(hm:MI m)(hk:m.a9=7):S8 n (a0p n m):=by
 have hkd:z5 m.g9=true/\m.g9.i7=false:=by
  rcases hm.kd with q|q|q|q|q|q|q
  ·omega
  ·omega
  ·omega
  ·omega
  ·omega
  ·exact ⟨q.2.2.2.1,q.2.2.2.2.1⟩
  ·omega
 unfold a0p;cases hc:n.d7==0||(decide (4<=n.d9.length)||N4 n.a5 m.g9.a0)
 ·simp only [cond_false];simp only [f6D,decide_eq_false_iff_not] at hc;refine S8.to (n:=n) (n':={n with d9:=n.d9++[m.g9]}) rfl (b0G (h.queue (by simp;omega) ?_));intro e he;rcases List.mem_append.1 he with q|q
  ·exact h.qs e q
  ·rw [f5y.1 q];exact hkd
 ·exact .same h
theorem d20{n:j6}(h:NI n){m:l8}(hm:MI m):∀x∈a2N n m,MI x:=by
 intro x hx;unfold a2N at hx;obtain ⟨l,hl,hx⟩:=f6s.1 hx;obtain ⟨j,hj,rfl⟩:=List.mem_map.1 hl;have hkl:=h.kl;unfold a1e at hx;cases hg:n.a5[m.g7.toNat+j]? with
 | none=>rw [hg] at hx;cases hx
 | some e =>
  rw [hg] at hx;have hlt:=(f5z.1 hg).1;rw [f5y.1 hx];exact b0a hm (.chosen (by omega) (h.ks e (f5F hg))) (by simp only;omega)
theorem b35{n:j6}(h:NI n){m:l8}(hm:MI m):a6R n (U1 n m):=by
 unfold U1;by_cases k1:m.a9=1
 ·rw [show (m.a9==1)=true by simpa using k1];exact (d0y h hm k1).three
 rw [show (m.a9==1)=false by simpa using k1];by_cases k2:m.a9=2
 ·rw [show (m.a9==2)=true by simpa using k2];exact (c5M h hm k2).three
 rw [show (m.a9==2)=false by simpa using k2];by_cases k3:m.a9=3
 ·rw [show (m.a9==3)=true by simpa using k3];exact (c7Z h hm k3).three
 rw [show (m.a9==3)=false by simpa using k3];by_cases k4:m.a9=4
 ·rw [show (m.a9==4)=true by simpa using k4];exact c8N h hm
 rw [show (m.a9==4)=false by simpa using k4];by_cases k5:m.a9=5
 ·rw [show (m.a9==5)=true by simpa using k5];exact d21 h hm k5
 rw [show (m.a9==5)=false by simpa using k5];by_cases k6:m.a9=6
 ·rw [show (m.a9==6)=true by simpa using k6];simp only [cond_true,cond_false];cases hp:H7 n.Acc m.a8 with
  | none=>exact ⟨h.yield _,a6c _ _,by simp,by simp⟩
  | some a=>exact ⟨(h.promise hp).yield _,a6c _ _,by simp,by simp⟩
 rw [show (m.a9==6)=false by simpa using k6];by_cases k7:m.a9=7
 ·rw [show (m.a9==7)=true by simpa using k7];exact (e1g h hm k7).three
 rw [show (m.a9==7)=false by simpa using k7];cases m.a9==8
 ·exact .same h
 ·exact ⟨h,rfl,d20 h hm,by simp⟩
structure e5b(n x:j6):Prop where
 id:x.Id=n.Id
 known:x.a5=n.a5
 seq:x.Seq=n.Seq
 busy:x.i8=n.i8
 prog:x.i6=n.i6
 want:x.b7=n.b7
theorem b66(n:j6):e5b n (M5 n).1:=by
 unfold M5;cases n.d7 != 2||decide (40<=n.a5.length)
 ·simp only [cond_false];obtain ⟨q,hq,_⟩:=b0A n;cases hx:a0O n with
  | mk x o =>
  rw [hx] at hq;have hq:x={n with d9:=q}:=hq;subst hq;cases o with
  | none=>exact ⟨rfl,rfl,rfl,rfl,rfl,rfl⟩
  | some e =>
   simp only [a56];cases K5 n.Acc n.a8 (n.a5.length:Int) e<;>exact ⟨rfl,rfl,rfl,rfl,rfl,rfl⟩
 ·exact ⟨rfl,rfl,rfl,rfl,rfl,rfl⟩
def a2x(n:j6):List n7:=(q9 n.a5).1.g8
theorem b7K{n:j6}(h:NI n):C8 (a2x n)=true:=by
 obtain ⟨a,b⟩:=a0J h.list;have:=(T3 a b n.a5.length (f5K _)).1.boxes;rwa [f5M] at this
theorem d7V{n:j6}(h:NI n):b7J n=some (q9 n.a5).1:=by
 unfold b7J;rw [a9l h.ok,f5s,a1u.2 h];simp only [f5x,cond_false];rw [f0t (okEntries.f h.ok.2.2.1) h.list];rfl
theorem e9s{l:List n7}{p:List n8}(h:(C1 l p).Code≠3):E1 p=true:=by
 unfold C1 at h;cases hp:E1 p
 ·rw [hp,Bool.and_false] at h;exact absurd rfl h
 ·rfl
def P7(n:j6)(prog:List n8):j6:={n with Seq:=n.Seq+1,i8:=true,i6:=prog,b7:=⟨false,⟨n.Id,n.Seq+1⟩,C1 (a2x n) prog⟩}
def K3(n:j6)(prog:List n8):Bool := !(n.i8||(n.Seq==1000||(C1 (a2x n) prog).Code==3))
theorem b5k{n:j6}{prog:List n8}:K3 n prog=true↔n.i8=false/\n.Seq≠1000/\(C1 (a2x n) prog).Code≠3:=by
 unfold K3;simp
theorem b2x{n:j6}(h:NI n){prog:List n8}(hp:s9 prog)(hc:K3 n prog=true):z5 (P7 n prog).b7=true/\E1 prog=true:=by
 obtain ⟨h1,h2,h3⟩:=b5k.1 hc;have hr:=(c3I (b7K h) hp).ok;have hs:=h.sq;have hid:=h.id;refine ⟨?_,e9s h3⟩;unfold z5 P7;simp only [cond_false,f5w,J0,hr,true_and,bne_iff_ne,ne_eq];exact ⟨⟨hid,by omega⟩,h3⟩
theorem NI.asked{n:j6}(h:NI n){prog:List n8}(hp:s9 prog)(hc:K3 n prog=true):NI (P7 n prog):=by
 obtain ⟨h1,h2,h3⟩:=b5k.1 hc;obtain ⟨h4,h5⟩:=b2x h hp hc;have hs:=h.sq;exact ⟨h.id,h.pr,h.vl,h.vs,h.kl,h.ks,by show 0<=n.Seq+1/\n.Seq+1<=1000;omega,h.ql,h.qs,h.ld,.inl ⟨rfl,h5,h4,rfl,rfl⟩⟩
theorem a1Z(n:j6)(prog:List n8):I8 n prog=bif K3 n prog then (bif n.d7==2 then M5 (P7 n prog) else (P7 n prog,bif n.d7==0 then H4 n.Id ⟨7,0,0,0,0,(P7 n prog).b7,[]⟩ else [])) else (n,[]):=by
 unfold I8 K3 P7 a2x;cases n.i8||(n.Seq==1000||(C1 (q9 n.a5).1.g8 prog).Code==3)<;>rfl
theorem e55{n:j6}(h:NI n){prog:List n8}(hp:A4 32 okT prog):b6o n prog=some ((I8 n prog).1,(I8 n prog).2,[]):=by
 have hf:s9 prog:=hp.fits (by decide);have hs:=h.sq;unfold b6o;rw [a9l h.ok,f5s,a1u.2 h,b3Y h.ok,d7V h,a1Z];simp only [f5x,cond_false,f5s];rw [show (q9 n.a5).1.g8=a2x n from rfl,d1d (a3D (b7K h)) hf,f5s];cases hb:n.i8
 ·cases hq:n.Seq==1000
  ·cases hc:(C1 (a2x n) prog).Code==3
   ·have hca:K3 n prog=true:=by unfold K3;rw [hb,hq,hc];rfl
    have hn:=h.asked hf hca;rw [hca];simp only [cond_true,cond_false];rw [u7 (by have:=hp.1;simp;omega),C2 (by omega) (by omega)];cases h2:n.d7==2
    ·cases h0:n.d7==0
     ·rfl
     ·simp only [cond_false,cond_true];rw [a5L h.id (show a0s ⟨7,0,0,0,0,⟨false,⟨n.Id,n.Seq+1⟩,C1 (a2x n) prog⟩,[]⟩ from a8R (A3 (by omega)) a0n a0n (a3n (b2x h hf hca).1) U2)];rfl
    ·simp only [cond_true];rw [show (⟨n.Id,n.Acc,n.a5,n.Seq+1,n.d7,n.a8,n.c8,n.i4,n.c9,n.a7,true,[]++prog,⟨false,⟨n.Id,n.Seq+1⟩,C1 (a2x n) prog⟩,n.d9⟩:j6)=P7 n prog from rfl,b29 hn.ok hn.id,f5s]
   ·have hca:K3 n prog=false:=by unfold K3;rw [hb,hq,hc];rfl
    rw [hca];rfl
  ·have hca:K3 n prog=false:=by unfold K3;rw [hb,hq];rfl
   rw [hca];rfl
 ·have hca:K3 n prog=false:=by unfold K3;rw [hb];rfl
  rw [hca];rfl
theorem b1a{n:j6}(h:NI n){prog:List n8}(hp:s9 prog):S8 n (I8 n prog):=by
 rw [a1Z];cases hc:K3 n prog
 ·exact .same h
 ·have hn:=h.asked hp hc;simp only [cond_true];cases n.d7==2
  ·refine ⟨hn,rfl,fun x hx => ?_⟩;simp only [cond_false] at hx;cases h0:n.d7==0
   ·rw [h0] at hx;cases hx
   ·rw [h0] at hx;exact a5Q h.id (.ask (b2x h hp hc).1 rfl) (by simp) x hx
  ·exact S8.to (n:=n) (n':=P7 n prog) rfl (b0G hn)
theorem b7G{b who:Int}(hb:0<=b/\b<=3000)(hw:0<=who/\who<=2):L4 b who=-1\/(b<L4 b who/\L4 b who<=b+3/\L4 b who<=3000/\f5W (L4 b who) 3=who):=by
 unfold L4;cases h1:decide (b+1<=3000)&&(f5W (b+1) 3==who)
 ·cases h2:decide (b+2<=3000)&&(f5W (b+2) 3==who)
  ·cases h3:decide (b+3<=3000)&&(f5W (b+3) 3==who)
   ·exact .inl rfl
   ·simp only [f5w,decide_eq_true_eq,beq_iff_eq] at h3;exact .inr ⟨by simp only [cond_true,cond_false];omega,by simp only [cond_true,cond_false];omega,h3.1,h3.2⟩
  ·simp only [f5w,decide_eq_true_eq,beq_iff_eq] at h2;exact .inr ⟨by simp only [cond_true,cond_false];omega,by simp only [cond_true,cond_false];omega,h2.1,h2.2⟩
 ·simp only [f5w,decide_eq_true_eq,beq_iff_eq] at h1;exact .inr ⟨by simp only [cond_true,cond_false];omega,by simp only [cond_true,cond_false];omega,h1.1,h1.2⟩
theorem e7G{n:j6}(h:NI n):b57 n=some (W9 n):=by
 unfold b57 W9;rw [a9l h.ok,f5s,a1u.2 h,b3Y h.ok];simp only [f5x,cond_false,f5s];rw [f2C h.pr h.id,f5s];cases hd:decide (L4 n.Acc.i0 n.Id<0)
 ·simp only [decide_eq_false_iff_not] at hd;rcases b7G h.pr h.id with q|⟨q1,q2,q3,q4⟩
  ·omega
  ·have hpr:=h.pr;have hkl:=h.kl;obtain ⟨y,hy⟩:=c3h h.id;simp only [cond_false,b3L,f5s,b6f,b4J (a:=n.Acc) (show 1<=L4 n.Acc.i0 n.Id by omega) q3 (by omega),hy,e9J h.ok.2.1.2];rw [u7 (by omega),u7 trivial,a5L h.id (a8R (A3 (by omega)) (A3 (by omega)) (A3 (by omega)) a1d U2)];rfl
 ·rfl
theorem a96{n:j6}(h:NI n):S8 n (W9 n):=by
 unfold W9;cases hd:decide (L4 n.Acc.i0 n.Id<0)
 ·simp only [decide_eq_false_iff_not] at hd;have hpr:=h.pr;have hkl:=h.kl;rcases b7G h.pr h.id with q|⟨q1,q2,q3,q4⟩
  ·omega
  ·obtain ⟨m1,m2⟩:=c4U h.id;refine ⟨⟨h.id,⟨by simp only [cond_false];omega,q3⟩,h.vl,fun v hv=>⟨(h.vs v hv).1,f6q (h.vs v hv).2 (Int.le_of_lt q1)⟩,h.kl,h.ks,h.sq,h.ql,h.qs,.inr (.inl ⟨rfl,⟨by simp only [cond_false];omega,q3,q4,f5R _,h.vl,fun v hv=>(h.vs v hv).1⟩,m1,m2,rfl,rfl⟩),h.wt⟩,rfl,?_⟩;exact a5Q h.id (.one (.inl rfl) ⟨by omega,q3⟩) (by simp only;omega)
 ·exact .same h
theorem d0z{k b s:Int}(hk:0<=k/\k<=8)(hb:0<=b/\b<=3000)(hs:0<=s/\s<=40):a0s ⟨k,0,0,b,s,zE,[]⟩:=a8R (A3 (by omega)) (A3 (by omega)) (A3 (by omega)) a1d U2
theorem d83{n:j6}(h:NI n):b8x n=some ((Q8 n).1,(Q8 n).2,[]):=by
 have hkl:=h.kl;have hb:=h.ld.bal;have l1:=a0L n.Id ⟨8,0,0,0,(n.a5.length:Int),zE,[]⟩;unfold b8x Q8;rw [a9l h.ok,f5s,a1u.2 h,b3Y h.ok];simp only [f5x,cond_false,f5s];rw [a5L h.id (d0z (by omega) (by omega) (by omega)),f5s];cases h1:n.d7==1
 ·cases h2:n.d7==2
  ·cases h3:n.d7==3
   ·cases hbz:n.i8
    ·rfl
    ·simp only [cond_true,cond_false];have l2:=a0L n.Id ⟨7,0,0,0,0,n.b7,[]⟩;have hw:E8 n.b7:=h.ok.2.2.2.2.2.2.2.2.2.2.2.1;rw [a5L h.id (a8R (A3 (by omega)) a0n a0n hw U2),f5s,u7 (by omega)];rfl
   ·simp only [cond_true,cond_false];have l2:=a0L n.Id ⟨3,0,0,n.a8,(n.a5.length:Int),n.c9,[]⟩;rw [a5L h.id (a8R (A3 (by omega)) (A3 (by omega)) (A3 (by omega)) h.ld.from3.2.2 U2),f5s,u7 (by omega)];rfl
  ·simp only [cond_true,cond_false];have l2:=a7P n;rw [b29 h.ok h.id,f5s,u7 (by omega)];rfl
 ·simp only [cond_true,cond_false];have l2:=a0L n.Id ⟨1,0,0,n.a8,(n.a5.length:Int),zE,[]⟩;rw [a5L h.id (d0z (by omega) (by omega) (by omega)),f5s,u7 (by omega)];rfl
theorem a9O{n:j6}(h:NI n):S8 n (Q8 n):=by
 have hkl:=h.kl;have hb:=h.ld.bal;have a1:∀x∈H4 n.Id ⟨8,0,0,0,(n.a5.length:Int),zE,[]⟩,MI x:=a5Q h.id .need (by simp only;omega)
 have N5:∀{l:List l8},(∀x∈l,MI x)->∀x∈H4 n.Id ⟨8,0,0,0,(n.a5.length:Int),zE,[]⟩++l,MI x:=by
  intro l hl x hx;rcases List.mem_append.1 hx with q|q
  ·exact a1 x q
  ·exact hl x q
 unfold Q8;by_cases h1:n.d7=1
 ·rw [show (n.d7==1)=true by simpa using h1];refine ⟨h,rfl,N5 (a5Q h.id (.one (.inl rfl) ?_) (by simp only;omega))⟩;rcases h.ld with q|q|q|q
  ·omega
  ·exact ⟨q.2.1.b1,q.2.1.b2⟩
  all_goals exact absurd q.1 (by omega)
 rw [show (n.d7==1)=false by simpa using h1];by_cases h2:n.d7=2
 ·rw [show (n.d7==2)=true by simpa using h2];have:=b0G h;exact ⟨this.ni,this.id,N5 this.ms⟩
 rw [show (n.d7==2)=false by simpa using h2];by_cases h3:n.d7=3
 ·rw [show (n.d7==3)=true by simpa using h3];rcases h.ld with q|q|q|q
  ·omega
  ·omega
  ·omega
  ·exact ⟨h,rfl,N5 (a5Q h.id (.accept ⟨q.2.1.b1,q.2.1.b2⟩ (by omega) q.2.2.2.1) (by simp only;omega))⟩
 rw [show (n.d7==3)=false by simpa using h3];cases hbz:n.i8
 ·exact ⟨h,rfl,a1⟩
 ·rcases h.wt with q|q
  ·exact ⟨h,rfl,N5 (a5Q h.id (.ask q.2.2.1 q.2.2.2.1) (by simp))⟩
  ·rw [hbz] at q;cases q.1
theorem e3H{n:j6}(h:NI n):b7E n=some (a1s n):=by
 unfold b7E;rw [a9l h.ok,f5s,a1u.2 h,b3Y h.ok];rfl
theorem NI.open{id:Int}(h:0<=id/\id<=2):NI (C5 id) :=
 ⟨h,⟨by simp [C5],by simp [C5]⟩,by simp [C5],by simp [C5],by simp [C5],by simp [C5],⟨by simp [C5],by simp [C5]⟩,by simp [C5],by simp [C5],.inl ⟨rfl,rfl,rfl,rfl,rfl,rfl⟩,.inr ⟨rfl,rfl,rfl⟩⟩
theorem NI.fall{n:j6}(h:NI n):NI (a1s n) :=
 ⟨h.id,h.pr,h.vl,h.vs,h.kl,h.ks,h.sq,by simp [a1s,C5],by simp [a1s,C5],.inl ⟨rfl,rfl,rfl,rfl,rfl,rfl⟩,.inr ⟨rfl,rfl,rfl⟩⟩
theorem c9v{l:List l8}(hl:s9 l)(ho:∀m∈l,a0s m):∀(d k:Nat) (net:List l8),l.length-k=d->p7 (fun s:(List l8)×Int=>a29 l s.1 s.2) (net,(k:Int))=some (.brk (net++(l.drop k).take (40-net.length)))
 | 0,k,net,hd=>by
  rw [f5S (by omega)];refine (C9 (b:=net) ?_).trans (by simp);show a29 l net (k:Int)=_
  unfold a29;rw [show decide ((k:Int)<(l.length:Int))=false by simp;omega];rfl
 | d+1,k,net,hd=>by
  have hlt:k<l.length:=by omega
  by_cases hn:net.length<40
  ·have hb:a29 l net (k:Int)=some (.nxt (net++[l[k]],((k+1:Nat):Int))):=by
    unfold a29;rw [w9 _ k hlt,show decide ((net.length:Int)<40)=true by simp;omega,cond_true,cond_true,t8 hlt,f5s,b6k (ho _ (f5v hlt)),f5s,u7 (by omega),F3 hl hlt]
   rw [E3 (body:=fun s:(List l8)×Int=>a29 l s.1 s.2) (s:=(net,(k:Int))) hb,c9v hl ho d (k+1) _ (by omega),f5U hlt];rw [show 40-net.length=(40-(net++[l[k]]).length)+1 by simp;omega,f7m,f5J];rfl
  ·refine (C9 (b:=net) ?_).trans (by rw [show 40-net.length=0 by omega];simp);show a29 l net (k:Int)=_
   unfold a29;rw [w9 _ k hlt,show decide ((net.length:Int)<40)=false by simp;omega];rfl
theorem a6F(w:m5){l:List l8}(hl:s9 l)(ho:∀m∈l,a0s m):a3u w l=some (a0x w l):=by
 unfold a3u;rw [show p7 (fun s:(List l8)×Int=>a29 l s.1 s.2) (w.d6,0)=_ from c9v hl ho l.length 0 w.d6 rfl];rfl
theorem d1F{l:List m9}(hl:s9 l):∀(d k:Nat) (o:List m9),l.length-k=d->p7 (fun s:(List m9)×Int=>a3q l s.1 s.2) (o,(k:Int))=some (.brk (o++(l.drop k).take (60-o.length)))
 | 0,k,o,hd=>by
  rw [f5S (by omega)];refine (C9 (b:=o) ?_).trans (by simp);show a3q l o (k:Int)=_
  unfold a3q;rw [show decide ((k:Int)<(l.length:Int))=false by simp;omega];rfl
 | d+1,k,o,hd=>by
  have hlt:k<l.length:=by omega
  by_cases hn:o.length<60
  ·have hb:a3q l o (k:Int)=some (.nxt (o++[l[k]],((k+1:Nat):Int))):=by
    unfold a3q;rw [w9 _ k hlt,show decide ((o.length:Int)<60)=true by simp;omega,cond_true,cond_true,t8 hlt,f5s,u7 (by omega),F3 hl hlt]
   rw [E3 (body:=fun s:(List m9)×Int=>a3q l s.1 s.2) (s:=(o,(k:Int))) hb,d1F hl d (k+1) _ (by omega),f5U hlt];rw [show 60-o.length=(60-(o++[l[k]]).length)+1 by simp;omega,f7m,f5J];rfl
  ·refine (C9 (b:=o) ?_).trans (by rw [show 60-o.length=0 by omega];simp);show a3q l o (k:Int)=_
   unfold a3q;rw [w9 _ k hlt,show decide ((o.length:Int)<60)=false by simp;omega];rfl
theorem a7M(w:m5){l:List m9}(hl:s9 l):a4d w l=some (a7o w l):=by
 unfold a4d;rw [show p7 (fun s:(List m9)×Int=>a3q l s.1 s.2) (w.Told,0)=_ from d1F hl l.length 0 w.Told rfl];rfl
theorem a3o(w:m5):a7o w []=w:=by
 unfold a7o;simp
theorem c0H(w:m5):a0x w []=w:=by
 unfold a0x;simp
theorem e4Z{w:m5}{k:Nat}(hk:k<w.d6.length)(hl:w.d6.length<=40):b4l w (k:Int)=some (a2p w (k:Int)):=by
 unfold b4l a2p;rw [u7 (by omega),u7 (by simp;omega),C2 (by omega) (by omega),u7 (by omega),u7 (by simp;omega)];simp only [f6o,f6X,f6H,Nat.sub_zero,f5P,f6x,show ((k:Int)+1).toNat=k+1 by omega];rw [f6g (l:=w.d6.drop (k+1)) (by simp)]
theorem a36{w:m5}(h:WI w){i:Nat}(hi:i<3):∃n,w.a6[i]?=some n/\G8 w (i:Int)=n/\n.Id=(i:Int)/\NI n/\i<w.a6.length:=by
 have hl:=h.nl;have hg:=f5t (l:=w.a6) (i:=i) (by omega);obtain ⟨h1,h2⟩:=h.ns i _ hg;refine ⟨_,hg,?_,h1,h2,by omega⟩;unfold G8;rw [f5P,f5G,hg];rfl
theorem WI.put{w:m5}(h:WI w){i:Nat}{n:j6}(hid:n.Id=(i:Int))(hn:NI n):WI (M6 w (i:Int) n):=by
 refine ⟨by simp [M6,h.nl],?_,h.ml,h.ms,h.al,h.aq,h.tl,h.ts⟩;intro j m hm;simp only [M6,f5P] at hm;by_cases q:i=j
 ·subst q;have hlt:=(f5z.1 hm).1;rw [f6M] at hlt;rw [f6v hlt] at hm;injection hm with hm;subst hm;exact ⟨hid,hn⟩
 ·rw [f5N q] at hm;exact h.ns j m hm
theorem WI.send{w:m5}(h:WI w){l:List l8}(hl:∀m∈l,MI m):WI (a0x w l):=by
 have:=h.ml;refine ⟨h.nl,h.ns,by simp only [a0x,f5D,f5L];omega,?_,h.al,h.aq,h.tl,h.ts⟩;intro m hm;rcases List.mem_append.1 hm with q|q
 ·exact h.ms m q
 ·exact hl m (f6k q)
theorem WI.tell{w:m5}(h:WI w){l:List m9}(hl:∀t∈l,T2 t=true):WI (a7o w l):=by
 have:=h.tl;refine ⟨h.nl,h.ns,h.ml,h.ms,h.al,h.aq,by simp only [a7o,f5D,f5L];omega,?_⟩;intro m hm;rcases List.mem_append.1 hm with q|q
 ·exact h.ts m q
 ·exact hl m (f6k q)
theorem WI.off{w:m5}(h:WI w)(i:Int):WI (a2p w i):=by
 have:=h.ml;refine ⟨h.nl,h.ns,by simp only [a2p,f5D,f5L,f7A];omega,?_,h.al,h.aq,h.tl,h.ts⟩;intro m hm;rcases List.mem_append.1 hm with q|q
 ·exact h.ms m (f6k q)
 ·exact h.ms m (f6p q)
theorem a9u{l:List l8}(h:l.length<=100):s9 l:=by unfold s9;omega
theorem c08(n:j6)(p:List n8):(I8 n p).2.length<=3:=by
 rw [a1Z];cases K3 n p
 ·simp
 ·cases n.d7==2
  ·cases n.d7==0
   ·simp
   ·exact a0L _ _
  ·exact a7P _
theorem MI.okl{l:List l8}(h:∀m∈l,MI m):∀m∈l,a0s m:=fun m hm=>(h m hm).ok
theorem c3F(n:j6)(p:List n8):decide ((I8 n p).1.Seq>n.Seq)=K3 n p:=by
 rw [a1Z];cases K3 n p
 ·simp
 ·simp only [cond_true];cases n.d7==2
  ·simp [P7];omega
  ·have:=(b66 (P7 n p)).seq;simp only [cond_true,this];simp [P7];omega
theorem b6h{n:j6}{p:List n8}(h:K3 n p=true):(I8 n p).1.b7=(P7 n p).b7:=by
 rw [a1Z,h];simp only [cond_true];cases n.d7==2
 ·rfl
 ·exact (b66 (P7 n p)).want
def e3s(w:m5)(a:x7):m5:={w with d8:=w.d8++[a]}
theorem WI.addAsked{w:m5}(h:WI w){a:x7}(hl:w.d8.length<60)(ha:Z6 a=true):WI (e3s w a):=by
 refine ⟨h.nl,h.ns,h.ml,h.ms,by simp only [e3s,f5D,f6z];omega,?_,h.tl,h.ts⟩;intro x hx;rcases List.mem_append.1 hx with q|q
 ·exact h.aq x q
 ·rw [f5y.1 q];exact ha
theorem e05{w:m5}(h:WI w){i:Nat}(hi:i<3){p:List n8}(hp:A4 32 okT p):b7m w (i:Int) p=some (a28 w (i:Int) p)/\WI (a28 w (i:Int) p):=by
 obtain ⟨n,hg,hn,hid,hni,hlt⟩:=a36 h hi;have hf:s9 p:=hp.fits (by decide);have hr:=b1a hni hf;have hln:=c08 n p;have hms:=MI.okl hr.ms;have hal:=h.al;unfold b7m a28;rw [hn,show decide ((w.d8.length:Int)>=60)=decide (60<=w.d8.length) by simp;omega,a8x,hg,f5s,e55 hni hp,f5s];cases hd:decide (60<=w.d8.length)
 ·simp only [cond_false];simp only [decide_eq_false_iff_not] at hd;rw [c3F];cases hc:K3 n p
  ·simp only [cond_false];rw [a6F _ (a9u (by omega)) hms,f5s,a7M _ (by simp [s9]),a3o];exact ⟨rfl,(h.put (hr.id.trans hid) hr.ni).send hr.ms⟩
  ·simp only [cond_true];rw [u7 (by have:=hp.1;simp;omega),u7 (by omega),a6F _ (a9u (by omega)) hms,f5s,a7M _ (by simp [s9]),a3o];refine ⟨rfl,WI.send (w:=M6 (e3s w ⟨(I8 n p).1.b7.a0,p⟩) (i:Int) (I8 n p).1) (WI.put (w:=e3s w ⟨(I8 n p).1.b7.a0,p⟩) (h.addAsked (by omega) ?_) (hr.id.trans hid) hr.ni) hr.ms⟩;rw [b6h hc];obtain ⟨w1,w2⟩:=b2x hni hf hc;obtain ⟨c1,c2,c3⟩:=b5k.1 hc;unfold Z6;have:=hni.id;have:=hni.sq;simp only [f5w,J0,w2,and_true];show (0<=n.Id/\n.Id<=2)/\1<=n.Seq+1/\n.Seq+1<=1000
   omega
 ·exact ⟨rfl,h⟩
theorem b80{n:j6}(h:NI n)(m:l8):(U1 n m).2.1.length<=60/\(U1 n m).2.2.length<=1:=by
 have hkl:=h.kl;have al:∀n:j6,(U8 n).2.length<=1:=fun n=>by
  rcases a9p n with q|⟨k,_,_,q⟩<;>rw [q]<;>simp
 have ll:∀(n:j6) (e:m4),(X8 n e).2.1.length<=3/\(X8 n e).2.2.length<=1:=fun n e=>⟨a7P _,al _⟩
 have nl:(a2N n m).length<=40:=by
  unfold a2N;have:∀d k:Nat,((f5A d).map fun j=>a1e n m (k+j)).flatten.length<=d:=by
   intro d k;rw [List.length_flatten,f7s];have hs:∀(l:List Nat),((l.map (List.length ∘ fun j=>a1e n m (k+j))).sum)<=l.length:=by
    intro l;induction l with
    | nil=>simp
    | cons x l ih =>
     simp only [f6b,List.sum_cons,f6y,Function.comp];have:(a1e n m (k+x)).length<=1:=by
      unfold a1e;cases n.a5[k+x]?<;>simp
     omega
   have:=hs (f5A d);rwa [List.length_range] at this
  have:=this (n.a5.length-m.g7.toNat) m.g7.toNat;omega
 unfold U1;cases m.a9==1
 ·cases m.a9==2
  ·cases m.a9==3
   ·cases m.a9==4
    ·cases m.a9==5
     ·cases m.a9==6
      ·cases m.a9==7
       ·cases m.a9==8
        ·exact ⟨by simp,by simp⟩
        ·exact ⟨by simp only [cond_true,cond_false];omega,by simp⟩
       ·refine ⟨?_,by simp⟩;simp only [cond_true,cond_false,a0p];cases n.d7==0||(decide (4<=n.d9.length)||N4 n.a5 m.g9.a0)
        ·exact Nat.le_trans (a7P _) (by omega)
        ·simp
      ·exact ⟨by simp,by simp⟩
     ·simp only [cond_true,cond_false,a2l];cases decide (m.g7<(n.a5.length:Int))
      ·cases decide (m.g7>(n.a5.length:Int))
       ·have:=ll n m.g9;exact ⟨by simp only [cond_false];omega,by simp only [cond_false];omega⟩
       ·exact ⟨by simp,by simp⟩
      ·exact ⟨by simp,by simp⟩
    ·simp only [cond_true,cond_false,a2M];cases n.d7 != 3||(m.a8 != n.a8||m.g7 != (n.a5.length:Int))
     ·cases N5 (n.a7.set m.c8.toNat true)
      ·exact ⟨by simp,by simp⟩
      ·have h1:=ll {n with a7:=n.a7.set m.c8.toNat true} n.c9;have h2:=a0L n.Id ⟨5,0,0,0,(n.a5.length:Int),n.c9,[]⟩;exact ⟨by simp only [cond_true,cond_false,f5D];omega,by simp only [cond_true,cond_false];omega⟩
     ·exact ⟨by simp,by simp⟩
   ·refine ⟨?_,by simp⟩;simp only [cond_true,cond_false,a1S];cases K5 n.Acc m.a8 m.g7 m.g9<;>simp
  ·refine ⟨?_,by simp⟩;simp only [cond_true,cond_false,a1V];cases n.d7 != 1||m.a8 != n.a8
   ·cases N5 (n.c8.set m.c8.toNat true)
    ·simp
    ·exact Nat.le_trans (a7P _) (by omega)
   ·simp
 ·refine ⟨?_,by simp⟩;simp only [cond_true,a1E];cases H7 n.Acc m.a8<;>simp
theorem f3h{w:m5}(h:WI w)(e:r9):a9L w e=some (a06 w e)/\WI (a06 w e):=by
 have hml:=h.ml;unfold a9L a06;by_cases h0:e.A<0
 ·rw [show decide (e.A<0)=true by simpa using h0,show decide (0<=e.A)=false by simp;omega];exact ⟨rfl,h⟩
 ·obtain ⟨k,hk⟩:∃k:Nat,e.A=(k:Int):=⟨e.A.toNat,by omega⟩
  rw [hk,show decide ((k:Int)<0)=false by simp,show decide (0<=(k:Int))=true by simp,f5P];simp only [cond_true,cond_false];by_cases hl:k<w.d6.length
  ·rw [show decide ((k:Int)>=(w.d6.length:Int))=false by simp;omega,t8 hl,f5t hl];have hm:=h.ms _ (f5v hl);generalize w.d6[k]=m at hm;simp only [cond_false,f5s,b6k hm.ok];cases e.a9==4
   ·simp only [cond_false];rw [e4Z hl hml];cases e.a9==3
    ·simp only [cond_false,f5s];have ho:=h.off (k:Int);have ht:=hm.to;obtain ⟨t,htt⟩:∃t:Nat,m.To=(t:Int):=⟨m.To.toNat,by omega⟩
     obtain ⟨n,hg,hn,hid,hni,hlt⟩:=a36 ho (i:=t) (by omega);have hn':G8 w (t:Int)=n:=hn;have hr:=b35 hni hm;obtain ⟨l1,l2⟩:=b80 hni m;rw [htt,a8x,hg,f5s,e5e hni hm,f5s,hn'];rw [a6F _ (a9u (by omega)) (MI.okl hr.ms),f5s,a7M _ (by unfold s9;omega)];exact ⟨rfl,((ho.put (hr.id.trans hid) hr.ni).send hr.ms).tell hr.ts⟩
    ·exact ⟨rfl,h.off _⟩
   ·simp only [cond_true];have hs:∀x∈[m],MI x:=fun x hx=>by rw [f5y.1 hx];exact hm
    rw [a6F _ (a9u (by simp)) (MI.okl hs)];exact ⟨rfl,h.send hs⟩
  ·rw [show decide ((k:Int)>=(w.d6.length:Int))=true by simp;omega,f5Q (by omega)];exact ⟨rfl,h⟩
def Q7(e:r9):Prop:=A4 32 okT e.i6
theorem c0C(n:j6):(Q8 n).2.length<=6:=by
 have l0:=a0L n.Id ⟨8,0,0,0,(n.a5.length:Int),zE,[]⟩;unfold Q8;cases n.d7==1
 ·cases n.d7==2
  ·cases n.d7==3
   ·cases n.i8
    ·simp only [cond_false];omega
    ·have:=a0L n.Id ⟨7,0,0,0,0,n.b7,[]⟩;simp only [cond_true,cond_false,f5D];omega
   ·have:=a0L n.Id ⟨3,0,0,n.a8,(n.a5.length:Int),n.c9,[]⟩;simp only [cond_true,cond_false,f5D];omega
  ·have:=a7P n;simp only [cond_true,cond_false,f5D];omega
 ·have:=a0L n.Id ⟨1,0,0,n.a8,(n.a5.length:Int),zE,[]⟩;simp only [cond_true,f5D];omega
theorem b5O(n:j6):(W9 n).2.length<=3:=by
 unfold W9;cases decide (L4 n.Acc.i0 n.Id<0)
 ·exact a0L _ _
 ·simp
theorem c3p{w:m5}{i:Nat}{n:j6}(h:w.a6[i]?=some n):M6 w (i:Int) n=w:=by
 unfold M6;rw [f5P];obtain ⟨hi,rfl⟩:=f5z.1 h;rw [f7u]
theorem e2c{w:m5}(h:WI w){i:Nat}(hi:i<3){p:List n8}(hp:A4 32 okT p):WI (a28 w (i:Int) p):=by
 obtain ⟨n,hg,hn,hid,hni,hlt⟩:=a36 h hi;have hf:s9 p:=hp.fits (by decide);have hr:=b1a hni hf;unfold a28;rw [hn];cases hd:decide (60<=w.d8.length)
 ·simp only [cond_false];simp only [decide_eq_false_iff_not] at hd;rw [c3F];cases hc:K3 n p
  ·simp only [cond_false];exact (h.put (hr.id.trans hid) hr.ni).send hr.ms
  ·simp only [cond_true];refine WI.send (w:=M6 (e3s w ⟨(I8 n p).1.b7.a0,p⟩) (i:Int) (I8 n p).1) (WI.put (w:=e3s w ⟨(I8 n p).1.b7.a0,p⟩) (h.addAsked (by omega) ?_) (hr.id.trans hid) hr.ni) hr.ms;rw [b6h hc];obtain ⟨w1,w2⟩:=b2x hni hf hc;obtain ⟨c1,c2,c3⟩:=b5k.1 hc;unfold Z6;have:=hni.id;have:=hni.sq;simp only [f5w,J0,w2,and_true];show (0<=n.Id/\n.Id<=2)/\1<=n.Seq+1/\n.Seq+1<=1000
   omega
 ·exact h
theorem e5R{w:m5}(h:WI w)(e:r9):WI (a06 w e):=by
 unfold a06;by_cases h0:e.A<0
 ·rw [show decide (0<=e.A)=false by simp;omega];exact h
 ·obtain ⟨k,hk⟩:∃k:Nat,e.A=(k:Int):=⟨e.A.toNat,by omega⟩
  rw [hk,show decide (0<=(k:Int))=true by simp,f5P];simp only [cond_true];by_cases hl:k<w.d6.length
  ·rw [f5t hl];have hm:=h.ms _ (f5v hl);generalize w.d6[k]=m at hm;simp only;cases e.a9==4
   ·simp only [cond_false];cases e.a9==3
    ·simp only [cond_false];have ho:=h.off (k:Int);have ht:=hm.to;obtain ⟨t,htt⟩:∃t:Nat,m.To=(t:Int):=⟨m.To.toNat,by omega⟩
     obtain ⟨n,hg,hn,hid,hni,hlt⟩:=a36 ho (i:=t) (by omega);have hn':G8 w (t:Int)=n:=hn;have hr:=b35 hni hm;rw [htt,hn'];exact ((ho.put (hr.id.trans hid) hr.ni).send hr.ms).tell hr.ts
    ·exact h.off _
   ·simp only [cond_true];have hs:∀x∈[m],MI x:=fun x hx=>by rw [f5y.1 hx];exact hm
    exact h.send hs
  ·rw [f5Q (by omega)];exact h
theorem d4N{w:m5}(h:WI w){e:r9}(he:A4 32 okT e.i6):WI (D9 w e):=by
 have n2:=e5R h e;unfold D9;cases e.a9==2||(e.a9==3||e.a9==4)
 ·simp only [cond_false];cases hA:p9 e.A 0 2
  ·exact h
  rw [J0] at hA;obtain ⟨i,hi⟩:∃i:Nat,e.A=(i:Int):=⟨e.A.toNat,by omega⟩
  obtain ⟨n,hg,hn,hid,hni,hlt⟩:=a36 h (i:=i) (by omega);rw [hi,hn];simp only [f5x,cond_false];cases e.a9==1
  ·cases e.a9==5
   ·cases e.a9==6
    ·cases e.a9==7
     ·exact h
     ·exact h.put hid hni.fall
    ·have hr:=a9O hni;exact (h.put (hr.id.trans hid) hr.ni).send hr.ms
   ·have hr:=a96 hni;exact (h.put (hr.id.trans hid) hr.ni).send hr.ms
  ·exact e2c h (by omega) he
 ·exact n2
theorem d2f{w:m5}(h:WI w){e:r9}(he:Q7 e):b2A w e=some (D9 w e)/\WI (D9 w e):=by
 obtain ⟨n1,n2⟩:=f3h h e;unfold b2A D9;rw [n1];cases e.a9==2
 ·cases e.a9==3
  ·cases e.a9==4
   ·simp only [cond_false,Bool.or_self];by_cases h0:e.A<0
    ·rw [show decide (e.A<0)=true by simpa using h0,show p9 e.A 0 2=false by unfold p9;simp;omega];exact ⟨rfl,h⟩
    ·by_cases h3:e.A>=3
     ·rw [show decide (e.A<0)=false by simpa using h0,show decide (e.A>=3)=true by simpa using h3,show p9 e.A 0 2=false by unfold p9;simp;omega];exact ⟨rfl,h⟩
     ·obtain ⟨i,hi⟩:∃i:Nat,e.A=(i:Int):=⟨e.A.toNat,by omega⟩
      rw [show decide (e.A<0)=false by simpa using h0,show decide (e.A>=3)=false by simpa using h3,show p9 e.A 0 2=true by unfold p9;simp;omega,hi];simp only [cond_false,f5x];obtain ⟨n,hg,hn,hid,hni,hlt⟩:=a36 h (i:=i) (by omega);rw [a8x,hg,f5s,hn];cases e.a9==1
      ·simp only [cond_false];cases e.a9==5
       ·simp only [cond_false];cases e.a9==6
        ·simp only [cond_false];cases e.a9==7
         ·simp only [cond_false];rw [a6F _ (by simp [s9]) (by simp),f5s,a7M _ (by simp [s9]),a3o,c0H];exact ⟨congrArg some (c3p hg),h⟩
         ·simp only [cond_true];rw [e3H hni,f5s,a6F _ (by simp [s9]) (by simp),f5s,a7M _ (by simp [s9]),a3o,c0H];exact ⟨rfl,h.put hid hni.fall⟩
        ·simp only [cond_true];have hr:=a9O hni;have hl:=c0C n;rw [d83 hni,f5s,a6F _ (a9u (by omega)) (MI.okl hr.ms),f5s,a7M _ (by simp [s9]),a3o];exact ⟨rfl,(h.put (hr.id.trans hid) hr.ni).send hr.ms⟩
       ·simp only [cond_true];have hr:=a96 hni;have hl:=b5O n;rw [e7G hni,f5s,a6F _ (a9u (by omega)) (MI.okl hr.ms),f5s,a7M _ (by simp [s9]),a3o];exact ⟨rfl,(h.put (hr.id.trans hid) hr.ni).send hr.ms⟩
      ·simp only [cond_true];obtain ⟨a1,a2⟩:=e05 h (i:=i) (by omega) he;unfold c0D;rw [hi,show (⟨w.a6.set (i:Int).toNat n,w.d6,w.d8,w.Told⟩:m5)=w from c3p hg,a1];exact ⟨rfl,a2⟩
   ·exact ⟨rfl,n2⟩
  ·exact ⟨rfl,n2⟩
 ·exact ⟨rfl,n2⟩
theorem WI.open:WI O1:=by
 refine ⟨rfl,?_,by simp [O1],by simp [O1],by simp [O1],by simp [O1],by simp [O1],by simp [O1]⟩;intro i n hn;match i,hn with
 | 0,hn=>injection hn with hn;subst hn;exact ⟨rfl,.open (by omega)⟩
 | 1,hn=>injection hn with hn;subst hn;exact ⟨rfl,.open (by omega)⟩
 | 2,hn=>injection hn with hn;subst hn;exact ⟨rfl,.open (by omega)⟩
 | i+3,hn=>simp [O1] at hn
theorem d2A:b3W=some O1:=by
 have e:∀(ns:List j6) (i:Nat),i<3->ns.length<=3->a3N ns (i:Int)=some (.nxt (ns++[C5 (i:Int)],((i+1:Nat):Int))):=by
  intro ns i hi hn;unfold a3N c0t;rw [show decide ((i:Int)<3)=true by simp;omega,show decide ((i:Int)<0)=false by simp,show decide ((i:Int)>=3)=false by simp;omega];simp only [cond_true,cond_false,f5s];rw [u7 (by omega),C2 (by omega) (by omega)];rfl
 have h0:=E3 (body:=fun s:(List j6)×Int=>a3N s.1 s.2) (s:=([],((0:Nat):Int))) (e [] 0 (by omega) (by simp));have h1:=E3 (body:=fun s:(List j6)×Int=>a3N s.1 s.2) (s:=([C5 0],((1:Nat):Int))) (e [C5 0] 1 (by omega) (by simp));have h2:=E3 (body:=fun s:(List j6)×Int=>a3N s.1 s.2) (s:=([C5 0,C5 1],((2:Nat):Int))) (e [C5 0,C5 1] 2 (by omega) (by simp));have h3:=C9 (body:=fun s:(List j6)×Int=>a3N s.1 s.2) (s:=([C5 0,C5 1,C5 2],((3:Nat):Int))) (show a3N [C5 0,C5 1,C5 2] 3=_ from rfl);unfold b3W;rw [show p7 (fun s:(List j6)×Int=>a3N s.1 s.2) ([],0)=_ from h0.trans (h1.trans (h2.trans h3))];rfl
theorem e0T{w:m5}(h:U0 w):b9D w=some w:=by
 obtain ⟨h1,h2,h3,h4⟩:=h;have b1:=h1.1;have b2:=h2.1;have b3:=h3.1;unfold b9D;rw [u7 (b3U h4),a64 (body:=fun s:(List j6)×Int=>b2B w s.1 s.2) w.a6 (h1.fits (by decide)) (fun l=>l) (by
  intro k hk;have hn:((w.a6.take k).length+1)*392<=140737488355328:=Nat.le_trans (f5Y 392 (show (w.a6.take k).length+1<=w.a6.length by rw [f5L];omega)) (Nat.le_trans b1 (by decide));unfold b2B;rw [w9 _ k hk,t8 hk];simp only [cond_true,f5s,b3Y (h1.2 _ (f5v hk)),u7 hn]) (by
  unfold b2B;rw [z9];rfl)]
 simp only [f5s,l9.go];unfold c2r;rw [a64 (body:=fun s:(List l8)×Int=>b2N w s.1 s.2) w.d6 (h2.fits (by decide)) (fun l=>l) (by
  intro k hk;have hn:((w.d6.take k).length+1)*152<=140737488355328:=Nat.le_trans (f5Y 152 (show (w.d6.take k).length+1<=w.d6.length by rw [f5L];omega)) (Nat.le_trans b2 (by decide));unfold b2N;rw [w9 _ k hk,t8 hk];simp only [cond_true,f5s,b6k (h2.2 _ (f5v hk)),u7 hn]) (by
  unfold b2N;rw [z9];rfl)]
 simp only [f5s,l9.go];unfold c1Y;rw [a64 (body:=fun s:(List x7)×Int=>b3y w s.1 s.2) w.d8 (h3.fits (by decide)) (fun l=>l) (by
  intro k hk;unfold b3y;have hp:=(h3.2 _ (f5v hk)).2;have hn:((w.d8.take k).length+1)*40<=140737488355328:=Nat.le_trans (f5Y 40 (show (w.d8.take k).length+1<=w.d8.length by rw [f5L];omega)) (Nat.le_trans b3 (by decide));rw [w9 _ k hk,t8 hk];simp only [cond_true,f5s,u7 (b3U hp),u7 hn,f6o]) (by
  unfold b3y;rw [z9];rfl)]
 rfl
theorem X7{k a:Int}{p:List n8}(h:p.length<=10):Q7 ⟨k,a,p⟩:=⟨by show p.length*32<=_;omega,fun _ _=>trivial⟩
theorem f1E(n:Int):∃v,b44 1 n=some v:=by
 unfold b44;cases decide ((1:Int)>n)<;>exact ⟨_,rfl⟩
theorem e96{r:t7}{m:Nat}(h:Rd r m)(hm:m<=1000000)(w:m5):∃e r',b8b r w=some (e,r',w)/\Rd r' (m+210)/\Q7 e:=by
 obtain ⟨v,hv⟩:=f1E (w.d6.length:Int);obtain ⟨a,r1,e1,h1,_⟩:=I5 h (by omega) v;obtain ⟨b,r2,e2,h2,_⟩:=I5 h1 (by omega) 24;have ask:∃e r',((F7 r2 3).bind fun p=>(a5t p.2).bind fun q=>some (r9.mk 1 p.1 q.1,q.2,w))=some (e,r',w)/\Rd r' (m+210)/\Q7 e:=by
  obtain ⟨c,r3,e3,h3,_⟩:=I5 h2 (by omega) 3;obtain ⟨p,r4,e4,h4,hp⟩:=c3V h3 (by omega);rw [e3,f5s,e4,f5s];exact ⟨_,_,rfl,h4.mono (by omega),X7 hp⟩
 obtain ⟨c3,r3,e3,h3,_⟩:=I5 h2 (by omega) 3;obtain ⟨c4,r4,e4,h4,_⟩:=I5 h2 (by omega) 2;obtain ⟨c5,r5,e5,h5,_⟩:=I5 h4 (by omega) 3;obtain ⟨c6,r6,e6,h6,_⟩:=I5 h3 (by omega) 10;obtain ⟨c7,r7,e7,h7,_⟩:=I5 h6 (by omega) 5;obtain ⟨p,r8,e8,h8,hp⟩:=c3V h3 (by omega);have z:∀(k x:Int) (r:t7) (j:Nat),Rd r j->j<=m+210->∃e r',(some (r9.mk k x [],r,w):Option (r9×t7×m5))=some (e,r',w)/\Rd r' (m+210)/\Q7 e:=fun k x r j hr hj=>⟨_,_,rfl,hr.mono hj,X7 (by simp)⟩
 unfold b8b;rw [hv,f5s,e1,f5s,e2,f5s];simp only [e3,e4,e5,e6,e7,e8,f5s];cases b==0
 ·cases b==1
  ·cases b==2
   ·cases b==3
    ·cases b==4
     ·cases b==5
      ·cases b==6
       ·cases b==7
        ·cases b==8
         ·cases b==9
          ·cases b==10
           ·exact z _ _ _ _ h2 (by omega)
           ·cases c3==0
            ·exact z _ _ _ _ h3 (by omega)
            ·exact z _ _ _ _ h7 (by omega)
          ·exact z _ _ _ _ h2 (by omega)
         ·exact z _ _ _ _ h2 (by omega)
        ·cases c4==0
         ·exact z _ _ _ _ h4 (by omega)
         ·exact z _ _ _ _ h5 (by omega)
       ·exact z _ _ _ _ h3 (by omega)
      ·exact z _ _ _ _ h3 (by omega)
     ·exact z _ _ _ _ h3 (by omega)
    ·exact ⟨_,_,rfl,h8.mono (by omega),X7 hp⟩
   ·exact ⟨_,_,rfl,h8.mono (by omega),X7 hp⟩
  ·exact ⟨_,_,rfl,h8.mono (by omega),X7 hp⟩
 ·exact ⟨_,_,rfl,h8.mono (by omega),X7 hp⟩
structure T6(w:m5)(out:List r9)(b:Nat):Prop where
 w:WI w
 e:∀x∈out,Q7 x
 l:out.length<=b
theorem c6B{out:List r9}{e:r9}(h:∀x∈out,Q7 x)(he:Q7 e):∀x∈out++[e],Q7 x:=by
 intro x hx;rcases List.mem_append.1 hx with q|q
 ·exact h x q
 ·rw [f5y.1 q];exact he
theorem a2z{w:m5}{out:List r9}{b:Nat}(h:T6 w out b)(hb:b<=1000){e:r9}(he:Q7 e):a1i w out e=some (D9 w e,out++[e])/\T6 (D9 w e) (out++[e]) (b+1):=by
 obtain ⟨h1,h2⟩:=d2f h.w he;have hl:=h.l;unfold a1i;rw [h1,f5s,u7 (by omega)];exact ⟨rfl,h2,c6B h.e he,by simp;omega⟩
theorem f1W{r:t7}{m:Nat}(h:Rd r m)(hm:m<=1000){w:m5}(hw:WI w){n:Nat}(hn:n<=90):∃l r',b5F r w (n:Int)=some (l,r')/\(∀e∈l,Q7 e)/\l.length<=90/\Rd r' 1000000:=by
 have hloop:=b97 (body:=fun s:t7×(List r9)×(List m9)×(List x7)×(List l8)×(List j6)×Int=>b4V (n:Int) s.1 s.2.1 s.2.2.1 s.2.2.2.1 s.2.2.2.2.1 s.2.2.2.2.2.1 s.2.2.2.2.2.2)
  (fun k s=>k<=n/\s.2.2.2.2.2.2=((n-k:Nat):Int)/\WI ⟨s.2.2.2.2.2.1,s.2.2.2.2.1,s.2.2.2.1,s.2.2.1⟩/\(∀e∈s.2.1,Q7 e)/\s.2.1.length=n-k/\Rd s.1 (m+210*(n-k)))
  (fun x => ∃ (r':t7) (l:List r9),x=.brk (r',l)/\(∀e∈l,Q7 e)/\l.length<=90/\Rd r' 1000000) (by
   rintro k ⟨r1,out,told,asked,net,nodes,i⟩ ⟨hk,hi,hw,he,hl,hr⟩
   simp only at hi hw he hl hr;unfold b4V;rw [hi];cases k with
   | zero =>
    rw [show decide (((n-0:Nat):Int)<(n:Int))=false by simp];exact ⟨_,rfl,_,_,rfl,he,by simp only;omega,hr.mono (by omega)⟩
   | succ k =>
    rw [show decide (((n-(k+1):Nat):Int)<(n:Int))=true by simp;omega];obtain ⟨e,r2,ee,hr2,hee⟩:=e96 hr (by omega) ⟨nodes,net,asked,told⟩;obtain ⟨d1,d2⟩:=d2f hw hee;simp only [cond_true,ee,f5s];rw [u7 trivial,u7 trivial,u7 trivial,u7 trivial,u7 (by omega),e6J hw.ok,a2e.2 hw,e0T hw.ok];simp only [f5s,cond_true,d1,l9.go,c5L];refine ⟨_,rfl,k,by omega,by omega,?_,d2,c6B he hee,by simp;omega,hr2.mono (by omega)⟩;rw [C2 (by omega) (by omega)];simp only;omega) (k:=n) (s:=(r,[],w.Told,w.d8,w.d6,w.a6,0)) ⟨f5K _,by simp,hw,by simp,by simp,by simpa using h⟩
 obtain ⟨x,hx,r',l,rfl,h1,h2⟩:=hloop;unfold b5F;rw [hx];exact ⟨l,r',rfl,h1,h2⟩
theorem d91{w:m5}(h:0<w.d6.length):D9 w ⟨3,0,[]⟩=a2p w 0:=by
 unfold D9 a06;simp only [show ((3:Int)==2)=false from rfl,show ((3:Int)==3)=true from rfl,show ((3:Int)==4)=false from rfl,Bool.or_false,f6c,cond_true,cond_false,show decide ((0:Int)<=0)=true from rfl,Int.toNat_zero];rw [f5t h]
theorem f1O(w:m5)(a:Int)(p:List n8):(D9 w ⟨5,a,p⟩).d6.length<=w.d6.length+3:=by
 unfold D9;simp only [show ((5:Int)==2)=false from rfl,show ((5:Int)==3)=false from rfl,show ((5:Int)==4)=false from rfl,show ((5:Int)==1)=false from rfl,show ((5:Int)==5)=true from rfl,Bool.or_false,cond_true,cond_false];cases !p9 a 0 2
 ·have:=b5O (G8 w a);simp only [cond_false,a0x,M6,f5D,f5L];omega
 ·simp
theorem c6x{b:Nat}:∀(d:Nat) (w:m5) (out:List r9),w.d6.length=d->T6 w out b->b+d<=1000->∃w' out',p7 (fun s:(List r9)×(List j6)×(List l8)×(List x7)×List m9=>a6p s.1 s.2.1 s.2.2.1 s.2.2.2.1 s.2.2.2.2) (out,w.a6,w.d6,w.d8,w.Told)=some (.brk (out',w'.a6,w'.d6,w'.d8,w'.Told))/\w'.d6=[]/\T6 w' out' (b+d)
 | 0,w,out,hd,h,hb=>by
  refine ⟨w,out,C9 ?_,f5E hd,h⟩;show a6p out w.a6 w.d6 w.d8 w.Told=_
  unfold a6p;rw [show decide ((w.d6.length:Int)>0)=false from decide_eq_false (by omega)];rfl
 | d+1,w,out,hd,h,hb=>by
  obtain ⟨t1,t2⟩:=a2z h (by omega) (e:=⟨3,0,[]⟩) (X7 (by simp));have hs:a6p out w.a6 w.d6 w.d8 w.Told=some (.nxt (out++[⟨3,0,[]⟩],(D9 w ⟨3,0,[]⟩).a6,(D9 w ⟨3,0,[]⟩).d6,(D9 w ⟨3,0,[]⟩).d8,(D9 w ⟨3,0,[]⟩).Told)):=by
   unfold a6p;rw [show decide ((w.d6.length:Int)>0)=true from decide_eq_true (by omega),cond_true,show (⟨w.a6,w.d6,w.d8,w.Told⟩:m5)=w from rfl,t1];rfl
  rw [E3 (body:=fun s:(List r9)×(List j6)×(List l8)×(List x7)×List m9=>a6p s.1 s.2.1 s.2.2.1 s.2.2.2.1 s.2.2.2.2) (s:=(out,w.a6,w.d6,w.d8,w.Told)) hs];obtain ⟨w',out',e1,e2,e3⟩:=c6x (b:=b+1) d (D9 w ⟨3,0,[]⟩) _ (by rw [d91 (by omega)];simp [a2p];omega) t2 (by omega);exact ⟨w',out',e1,e2,⟨e3.w,e3.e,by have:=e3.l;omega⟩⟩
theorem d4g{p:Int×t7}{B:Nat}(hB:B<=900):∀(i:Nat) (w:m5) (out:List r9) (b:Nat),T6 w out b->b+w.d6.length+4*i<=B->i<=100->∃w' out',p7 (fun s:(List m9)×(List x7)×(List l8)×(List j6)×(List r9)×Int=>b0f p s.1 s.2.1 s.2.2.1 s.2.2.2.1 s.2.2.2.2.1 s.2.2.2.2.2) (w.Told,w.d8,w.d6,w.a6,out,(i:Int))=some (.brk (out',w'.a6,w'.d6,w'.d8,w'.Told))/\T6 w' out' B
 | 0,w,out,b,h,hb,hi=>by
  refine ⟨w,out,C9 ?_,h.w,h.e,by have:=h.l;omega⟩;rfl
 | i+1,w,out,b,h,hb,hi=>by
  obtain ⟨w1,out1,e1,e2,e3⟩:=c6x (b:=b) w.d6.length w out rfl h (by omega);obtain ⟨t1,t2⟩:=a2z e3 (by omega) (e:=⟨5,p.1,[]⟩) (X7 (by simp));have hs:b0f p w.Told w.d8 w.d6 w.a6 out ((i+1:Nat):Int)=some (.nxt ((D9 w1 ⟨5,p.1,[]⟩).Told,(D9 w1 ⟨5,p.1,[]⟩).d8,(D9 w1 ⟨5,p.1,[]⟩).d6,(D9 w1 ⟨5,p.1,[]⟩).a6,out1++[⟨5,p.1,[]⟩],(i:Int))):=by
   unfold b0f;rw [show decide (((i+1:Nat):Int)>0)=true from decide_eq_true (by omega),cond_true,e1];simp only [f5s,l9.go,c0z];rw [show (⟨w1.a6,w1.d6,w1.d8,w1.Told⟩:m5)=w1 from rfl,t1,f5s,C2 (by omega) (by omega),show ((i+1:Nat):Int)-1=(i:Int) by omega]
  rw [E3 (body:=fun s:(List m9)×(List x7)×(List l8)×(List j6)×(List r9)×Int=>b0f p s.1 s.2.1 s.2.2.1 s.2.2.2.1 s.2.2.2.2.1 s.2.2.2.2.2) (s:=(w.Told,w.d8,w.d6,w.a6,out,((i+1:Nat):Int))) hs];have hn:=f1O w1 p.1 [];rw [e2] at hn;simp only [f6Z,f6x] at hn;exact d4g hB i _ _ _ t2 (by omega) (by omega)
theorem f3R{r:t7}{m:Nat}(h:Rd r m)(hm:m<=1000){w:m5}{out:List r9}(hw:T6 w out 1):∃w' out' r',b8O r w out=some (w',out',r')/\T6 w' out' 130/\Rd r' (m+3):=by
 obtain ⟨a,r1,e1,h1,_⟩:=I5 h (by omega) 3;obtain ⟨v,r2,e2,h2,hv⟩:=b2a h1 (by omega) [3,8,20] (by simp) (by simp);obtain ⟨i,hi,hi20⟩:∃i:Nat,v=(i:Int)/\i<=20:=by
  simp at hv;rcases hv with rfl|rfl|rfl
  ·exact ⟨3,rfl,by omega⟩
  ·exact ⟨8,rfl,by omega⟩
  ·exact ⟨20,rfl,by omega⟩
 have hml:=hw.w.ml;obtain ⟨w',out',e3,e4⟩:=d4g (p:=(a,r1)) (B:=125) (by omega) i w out 1 hw (by omega) (by omega);have e4':T6 w' out' 125:=e4;unfold b8O;rw [e1,f5s,e2,f5s,hi,e3];simp only [f5s,l9.go,c4i];cases decide ((w'.d6.length:Int)>0)
 ·simp only [cond_false,f5s,l9.go,b7z];obtain ⟨t1,t2⟩:=a2z e4' (by omega) (e:=⟨7,a,[]⟩) (X7 (by simp));rw [show (⟨w'.a6,w'.d6,w'.d8,w'.Told⟩:m5)=w' from rfl,t1];exact ⟨_,_,_,rfl,⟨t2.w,t2.e,by have:=t2.l;simp only;omega⟩,h2.mono (by omega)⟩
 ·obtain ⟨c,r3,e5,h5,_⟩:=I5 h2 (by omega) (w'.d6.length:Int);obtain ⟨t1,t2⟩:=a2z e4' (by omega) (e:=⟨2,c,[]⟩) (X7 (by simp));obtain ⟨u1,u2⟩:=a2z t2 (by omega) (e:=⟨7,a,[]⟩) (X7 (by simp));simp only [cond_true,e5,f5s];rw [show (⟨w'.a6,w'.d6,w'.d8,w'.Told⟩:m5)=w' from rfl,t1];simp only [f5s,l9.go,b7z];rw [show (⟨(D9 w' ⟨2,c,[]⟩).a6,(D9 w' ⟨2,c,[]⟩).d6,(D9 w' ⟨2,c,[]⟩).d8,(D9 w' ⟨2,c,[]⟩).Told⟩:m5)=D9 w' ⟨2,c,[]⟩ from rfl,u1];exact ⟨_,_,_,rfl,⟨u2.w,u2.e,by have:=u2.l;simp only;omega⟩,h5.mono (by omega)⟩
theorem d7T{M:Nat}(hM:M<=100000){r:t7}{w:m5}{out:List r9}(h:T6 w out 290)(hr:Rd r (M+10*out.length)):∃w' out' r',p7 (fun s:t7×(List j6)×(List l8)×(List x7)×(List m9)×List r9=>b2y s.1 s.2.1 s.2.2.1 s.2.2.2.1 s.2.2.2.2.1 s.2.2.2.2.2) (r,w.a6,w.d6,w.d8,w.Told,out)=some (.brk (r',w'.a6,w'.d6,w'.d8,w'.Told,out'))/\T6 w' out' (max out.length 201)/\Rd r' (M+10*out'.length+2):=by
 have hloop:=b97 (body:=fun s:t7×(List j6)×(List l8)×(List x7)×(List m9)×List r9=>b2y s.1 s.2.1 s.2.2.1 s.2.2.2.1 s.2.2.2.2.1 s.2.2.2.2.2)
  (fun k s => ∃w:m5,s.2=(w.a6,w.d6,w.d8,w.Told,s.2.2.2.2.2)/\T6 w s.2.2.2.2.2 (max out.length 201)/\k=300-s.2.2.2.2.2.length/\Rd s.1 (M+10*s.2.2.2.2.2.length))
  (fun x => ∃ (w':m5) (out':List r9) (r':t7),x=.brk (r',w'.a6,w'.d6,w'.d8,w'.Told,out')/\T6 w' out' (max out.length 201)/\Rd r' (M+10*out'.length+2)) (by
   rintro k ⟨r1,s⟩ ⟨w1,hs,hf,hk,hr1⟩
   simp only at hs hf hk hr1;obtain ⟨nodes,net,asked,told,o⟩:=s;simp only at hs hf hk hr1;injection hs with e1 e2;injection e2 with e2 e3;injection e3 with e3 e4;injection e4 with e4 e5;subst e1;subst e2;subst e3;subst e4;have hl:=hf.l;have hol:=h.l;unfold b2y;cases decide ((w1.d6.length:Int)>0)
   ·exact ⟨_,rfl,w1,o,r1,rfl,hf,hr1.mono (by omega)⟩
   ·obtain ⟨a,r2,p1,p2,_⟩:=I5 hr1 (by omega) 9;simp only [cond_true,p1,f5s];cases decide (a>0)
    ·exact ⟨_,rfl,w1,o,r2,rfl,hf,p2.mono (by omega)⟩
    ·simp only [cond_true];by_cases h200:o.length<200
     ·rw [show decide ((o.length:Int)<200)=true from decide_eq_true (by omega)];obtain ⟨b,r3,q1,q2,_⟩:=I5 p2 (by omega) 8;have go:∀(w2:m5) (o2:List r9) (r4:t7) (j:Nat),T6 w2 o2 (max out.length 201)->o2.length<=200->Rd r4 j->j<=M+10*o2.length+4->o.length<=o2.length->∃st,b7P r4 w2.a6 w2.d6 w2.d8 w2.Told o2=some st/\match st with
        | .ret _=>False
        | .brk _=>False
        | .nxt t => ∃k',k'<k/\∃w:m5,t.2=(w.a6,w.d6,w.d8,w.Told,t.2.2.2.2.2)/\T6 w t.2.2.2.2.2 (max out.length 201)/\k'=300-t.2.2.2.2.2.length/\Rd t.1 (M+10*t.2.2.2.2.2.length):=by
       intro w2 o2 r4 j hf2 ho2 hr4 hj hle;obtain ⟨c,r5,x1,x2,_⟩:=I5 hr4 (by omega) (w2.d6.length:Int);obtain ⟨d,r6,y1,y2,_⟩:=b2a x2 (by omega) [0,0,c] (by simp) (by simp);obtain ⟨t1,t2⟩:=a2z (b:=200) ⟨hf2.w,hf2.e,ho2⟩ (by omega) (e:=⟨2,d,[]⟩) (X7 (by simp));unfold b7P;rw [x1,f5s,y1,f5s,show (⟨w2.a6,w2.d6,w2.d8,w2.Told⟩:m5)=w2 from rfl,t1];refine ⟨_,rfl,300-(o2++[(⟨2,d,[]⟩:r9)]).length,by simp;omega,D9 w2 ⟨2,d,[]⟩,rfl,⟨t2.w,t2.e,by simp;omega⟩,rfl,y2.mono (by simp;omega)⟩
      simp only [cond_true,q1,f5s];cases b==0
      ·obtain ⟨st,g1,g2⟩:=go w1 o r3 _ hf (by omega) q2 (by omega) (f5K _);refine ⟨st,g1,?_⟩;cases st with
       | ret _=>exact g2.elim
       | brk _=>exact g2.elim
       | nxt t=>exact g2
      ·obtain ⟨c,r4,x1,x2,_⟩:=I5 q2 (by omega) (w1.d6.length:Int);obtain ⟨t1,t2⟩:=a2z (b:=199) ⟨hf.w,hf.e,by omega⟩ (by omega) (e:=⟨4,c,[]⟩) (X7 (by simp));simp only [cond_true,x1,f5s];rw [show (⟨w1.a6,w1.d6,w1.d8,w1.Told⟩:m5)=w1 from rfl,t1];simp only [f5s,l9.go];have hl2:(o++[(⟨4,c,[]⟩:r9)]).length=o.length+1:=by simp
       obtain ⟨st,g1,g2⟩:=go (D9 w1 ⟨4,c,[]⟩) (o++[⟨4,c,[]⟩]) r4 _ ⟨t2.w,t2.e,by omega⟩ (by omega) x2 (by omega) (by omega);refine ⟨st,g1,?_⟩;cases st with
       | ret _=>exact g2.elim
       | brk _=>exact g2.elim
       | nxt t=>exact g2
     ·rw [show decide ((o.length:Int)<200)=false from decide_eq_false (by omega)];exact ⟨_,rfl,w1,o,r2,rfl,hf,p2.mono (by omega)⟩) (k:=300-out.length) (s:=(r,w.a6,w.d6,w.d8,w.Told,out)) ⟨w,rfl,⟨h.w,h.e,by simp only;omega⟩,rfl,hr⟩
 obtain ⟨x,hx,w',out',r',rfl,h1,h2⟩:=hloop;exact ⟨w',out',r',hx,h1,h2⟩
theorem c91:∀(i:Nat) (r:t7) (w:m5) (out:List r9),i<=6->T6 w out (201+3*(6-i))->Rd r (10000-1000*i+10*out.length)->∃r' out',p7 (fun s:t7×(List j6)×(List l8)×(List x7)×(List m9)×(List r9)×Int=>a9w s.1 s.2.1 s.2.2.1 s.2.2.2.1 s.2.2.2.2.1 s.2.2.2.2.2.1 s.2.2.2.2.2.2) (r,w.a6,w.d6,w.d8,w.Told,out,(i:Int))=some (.brk (r',out'))/\(∀e∈out',Q7 e)/\out'.length<=300/\Rd r' 1000000
 | 0,r,w,out,hi,h,hr=>⟨r,out,C9 rfl,h.e,by have:=h.l;omega,hr.mono (by have:=h.l;omega)⟩
 | i+1,r,w,out,hi,h,hr=>by
  have hl:=h.l;obtain ⟨a,r1,p1,p2,_⟩:=I5 hr (by omega) 3;obtain ⟨pr,r2,q1,q2,q3⟩:=c3V p2 (by omega);obtain ⟨t1,t2⟩:=a2z h (by omega) (e:=⟨1,a,pr⟩) (X7 q3);have hlen:(out++[(⟨1,a,pr⟩:r9)]).length=out.length+1:=by simp
  obtain ⟨w3,o3,r3,x1,x2,x3⟩:=d7T (M:=10000-1000*(i+1)+201) (by omega) (w:=D9 w ⟨1,a,pr⟩) (out:=out++[⟨1,a,pr⟩]) (r:=r2) ⟨t2.w,t2.e,by omega⟩ (q2.mono (by omega));have x2l:=x2.l;obtain ⟨b,r4,y1,y2,_⟩:=I5 x3 (by omega) 4;have fin:∀(w4:m5) (o4:List r9) (r5:t7) (j:Nat),T6 w4 o4 (201+3*(6-(i+1))+2)->Rd r5 j->j<=10000-1000*(i+1)+300+10*o4.length->∃w5 o5 r6,b4R ((i+1:Nat):Int) r5 w4.a6 w4.d6 w4.d8 w4.Told o4=some (.nxt (r6,w5.a6,w5.d6,w5.d8,w5.Told,o5,(i:Int)))/\T6 w5 o5 (201+3*(6-i))/\Rd r6 (10000-1000*i+10*o5.length):=by
   intro w4 o4 r5 j hf hr5 hj;have hfl:=hf.l;obtain ⟨c,r6,z1,z2,_⟩:=I5 hr5 (by omega) 3;obtain ⟨u1,u2⟩:=a2z hf (by omega) (e:=⟨6,c,[]⟩) (X7 (by simp));refine ⟨D9 w4 ⟨6,c,[]⟩,o4++[⟨6,c,[]⟩],r6,?_,⟨u2.w,u2.e,by have:=u2.l;omega⟩,z2.mono (by simp;omega)⟩;unfold b4R;rw [z1,f5s,show (⟨w4.a6,w4.d6,w4.d8,w4.Told⟩:m5)=w4 from rfl,u1,f5s,C2 (by omega) (by omega),show ((i+1:Nat):Int)-1=(i:Int) by omega]
  have hstep:∃w5 o5 r6,a9w r w.a6 w.d6 w.d8 w.Told out ((i+1:Nat):Int)=some (.nxt (r6,w5.a6,w5.d6,w5.d8,w5.Told,o5,(i:Int)))/\T6 w5 o5 (201+3*(6-i))/\Rd r6 (10000-1000*i+10*o5.length):=by
   unfold a9w;rw [show decide (((i+1:Nat):Int)>0)=true from decide_eq_true (by omega),cond_true,p1,f5s,q1,f5s,show (⟨w.a6,w.d6,w.d8,w.Told⟩:m5)=w from rfl,t1,f5s,x1];simp only [f5s,l9.go];unfold c4S;rw [y1,f5s];cases b==0
   ·cases b==1
    ·simp only [cond_false,f5s,l9.go];exact fin w3 o3 r4 _ ⟨x2.w,x2.e,by omega⟩ y2 (by omega)
    ·obtain ⟨c,r5,z1,z2,_⟩:=I5 y2 (by omega) 3;obtain ⟨u1,u2⟩:=a2z x2 (by omega) (e:=⟨5,c,[]⟩) (X7 (by simp));simp only [cond_false,cond_true,z1,f5s];rw [show (⟨w3.a6,w3.d6,w3.d8,w3.Told⟩:m5)=w3 from rfl,u1];simp only [f5s,l9.go];exact fin (D9 w3 ⟨5,c,[]⟩) _ r5 _ ⟨u2.w,u2.e,by have:=u2.l;omega⟩ z2 (by simp;omega)
   ·obtain ⟨c,r5,z1,z2,_⟩:=I5 y2 (by omega) 3;obtain ⟨u1,u2⟩:=a2z x2 (by omega) (e:=⟨7,c,[]⟩) (X7 (by simp));simp only [cond_true,z1,f5s];rw [show (⟨w3.a6,w3.d6,w3.d8,w3.Told⟩:m5)=w3 from rfl,u1];simp only [f5s,l9.go];exact fin (D9 w3 ⟨7,c,[]⟩) _ r5 _ ⟨u2.w,u2.e,by have:=u2.l;omega⟩ z2 (by simp;omega)
  obtain ⟨w5,o5,r6,s1,s2,s3⟩:=hstep;rw [E3 (body:=fun s:t7×(List j6)×(List l8)×(List x7)×(List m9)×(List r9)×Int=>a9w s.1 s.2.1 s.2.2.1 s.2.2.2.1 s.2.2.2.2.1 s.2.2.2.2.2.1 s.2.2.2.2.2.2) (s:=(r,w.a6,w.d6,w.d8,w.Told,out,((i+1:Nat):Int))) s1];exact c91 i r6 w5 o5 (by omega) s2 s3
theorem e32{r:t7}{m:Nat}(h:Rd r m)(hm:m<=100):∃l r',b95 r=some (l,r')/\(∀e∈l,Q7 e)/\l.length<=300/\Rd r' 1000000:=by
 obtain ⟨a,r1,p1,p2,_⟩:=I5 h (by omega) 3;obtain ⟨t1,t2⟩:=a2z (w:=O1) (out:=[]) (b:=0) ⟨WI.open,by simp,by simp⟩ (by omega) (e:=⟨5,a,[]⟩) (X7 (by simp));obtain ⟨b,r2,q1,q2,_⟩:=I5 p2 (by omega) 3;unfold b95;rw [d2A,f5s,p1,f5s,t1,f5s,q1,f5s];have tail:∀(w:m5) (out:List r9) (r3:t7) (j:Nat),T6 w out 130->Rd r3 j->j<=200->∃l r',b90 r3 w.a6 w.d6 w.d8 w.Told out=some (l,r')/\(∀e∈l,Q7 e)/\l.length<=300/\Rd r' 1000000:=by
  intro w out r3 j hf hr3 hj;obtain ⟨c,r4,x1,x2,x3,x4⟩:=I5 hr3 (by omega) 3;obtain ⟨i,hi,hi6⟩:∃i:Nat,m7 (3+c)=(i:Int)/\i<=6:=⟨(3+c).toNat,by rw [C2 (by omega) (by omega)];omega,by omega⟩
  obtain ⟨r',out',e1,e2,e3⟩:=c91 i r4 w out hi6 ⟨hf.w,hf.e,by have:=hf.l;omega⟩ (x2.mono (by omega));unfold b90;rw [x1,f5s,hi,e1];exact ⟨out',r',rfl,e2,e3⟩
 have tf:T6 (D9 O1 ⟨5,a,[]⟩) ([]++[(⟨5,a,[]⟩:r9)]) 1:=t2;cases decide (b>0)
 ·obtain ⟨c,r3,x1,x2,_⟩:=I5 q2 (by omega) 5;simp only [cond_false,x1,f5s];cases c==0
  ·exact tail _ _ r3 _ ⟨tf.w,tf.e,by simp⟩ x2 (by omega)
  ·obtain ⟨w',o',r',y1,y2,y3⟩:=f3R x2 (by omega) tf;simp only [cond_true];rw [y1];exact tail w' o' r' _ y2 y3 (by omega)
 ·obtain ⟨v,r3,x1,x2,x3⟩:=b2a q2 (by omega) [10,30,60,90] (by simp) (by simp);obtain ⟨n,hn,hn90⟩:∃n:Nat,v=(n:Int)/\n<=90:=by
   simp at x3;rcases x3 with rfl|rfl|rfl|rfl
   ·exact ⟨10,rfl,by omega⟩
   ·exact ⟨30,rfl,by omega⟩
   ·exact ⟨60,rfl,by omega⟩
   ·exact ⟨90,rfl,by omega⟩
  obtain ⟨l,r4,y1,y2,y3,y4⟩:=f1W x2 (by omega) tf.w hn90;simp only [cond_true,x1,f5s];rw [hn,y1,f5s,u7 (by simp;omega)];refine ⟨_,_,rfl,?_,by simp;omega,y4⟩;intro e he;rcases List.mem_append.1 he with q|q
  ·exact tf.e e q
  ·exact y2 e q
theorem e1e{code:List Int}(h:∀x∈code,a6t x):∃l,b7o code=some l/\(∀e∈l,Q7 e)/\l.length<=300:=by
 obtain ⟨r,h1,h2⟩:=e5j h;obtain ⟨l,r',e1,e2,e3,_⟩:=e32 h2 (by omega);unfold b7o;rw [h1,f5s,e1];exact ⟨l,rfl,e2,e3⟩
def a7J(e:m4)(v:m8):Bool:=decide (v.a8>0)&&M9 v.g9 e
def a02(l:List j6)(s:Nat)(e:m4):Nat:=(l.filter fun n=>a7J e (S5 n s)).length
theorem d7p{l:List j6}(s:Nat)(e:m4){k:Nat}(hk:k<l.length):a02 (l.take (k+1)) s e=a02 (l.take k) s e+(bif a7J e (S5 l[k] s) then 1 else 0):=by
 unfold a02;rw [f5T hk,List.filter_append,f5D,List.filter_cons,List.filter_nil];cases a7J e (S5 l[k] s)<;>rfl
theorem d9X(l:List j6)(s:Nat)(e:m4)(k:Nat):a02 (l.take k) s e<=k:=by
 unfold a02;refine Nat.le_trans (List.length_filter_le _ _) ?_;rw [f5L];omega
theorem f2o{w:m5}(h:U0 w)(hw:WI w)(s:Nat)(e:m4):b9e w (s:Int) e=some ((a02 w.a6 s e:Nat):Int):=by
 have hf:s9 w.a6:=h.1.fits (by decide);have hloop:=W7 (body:=fun t:Int×Int=>a9v w (s:Int) e t.1 t.2) (fun k=>((k:Int),((a02 (w.a6.take k) s e:Nat):Int))) w.a6.length (by
  intro k hk;have hb:=d9X w.a6 s e k;have hle:=hf;unfold s9 at hle;have hn:m7 (((a02 (w.a6.take k) s e:Nat):Int)+1)=((a02 (w.a6.take k) s e+1:Nat):Int):=by rw [C2 (by omega) (by omega)];omega
  have hni:=(hw.ns k w.a6[k] (f5t hk)).2;simp only;unfold a9v c01;rw [w9 _ k hk,t8 hk,F3 hf hk];simp only [cond_true,f5s,d7p s e hk];by_cases hs:s<w.a6[k].Acc.a7.length
  ·have hva:S5 w.a6[k] s=w.a6[k].Acc.a7[s]:=by unfold S5;rw [f5t hs];rfl
   have hvi:=(hni.vs _ (f5v hs)).1;have hpos:(w.a6[k].Acc.a7[s].a8 != 0)=decide (w.a6[k].Acc.a7[s].a8>0):=by
    have h0:0<=w.a6[k].Acc.a7[s].a8:=hvi.bal.1;by_cases hz:w.a6[k].Acc.a7[s].a8=0
    ·rw [hz];rfl
    ·rw [decide_eq_true (show w.a6[k].Acc.a7[s].a8>0 by omega)];simpa using hz
   rw [hva,w9 _ s hs,t8 hs];simp only [cond_true,f5s,hpos];unfold a7J;cases decide (w.a6[k].Acc.a7[s].a8>0)
   ·rfl
   ·simp only [cond_true,a6N ((h.1.2 _ (f5v hk)).2.1.2.2 _ (f5v hs)).2,f5s,hn];cases M9 w.a6[k].Acc.a7[s].g9 e<;>rfl
  ·have hva:S5 w.a6[k] s=zV:=by unfold S5;rw [f5Q (by omega)];rfl
   rw [hva,decide_eq_false (show ¬((s:Int)<(w.a6[k].Acc.a7.length:Int)) by omega)];rfl)
 rw [f5M,show ((0:Nat):Int)=0 from rfl] at hloop;unfold b9e;rw [show p7 (fun t:Int×Int=>a9v w (s:Int) e t.1 t.2) (0,0)=_ from hloop,C9 (b:=((a02 w.a6 s e:Nat):Int))]
 ·rfl
 ·unfold a9v;rw [z9];rfl
def b9x(w:m5)(n:j6)(k:Nat):Bool:=match n.a5[k]? with
 | some e => !decide (((a02 w.a6 k e:Nat):Int)<2)
 | none=>true
def a8v(w:m5)(n:j6):Bool:=(f5A n.a5.length).all (b9x w n)
theorem d17{w:m5}{n:j6}{k:Nat}(hk:k<n.a5.length):b9x w n k = !decide (((a02 w.a6 k n.a5[k]:Nat):Int)<2):=by
 unfold b9x;rw [f5t hk]
theorem e62{w:m5}(h:U0 w):b37 w=some (C3 w&&w.a6.all (a8v w)):=by
 have hf:s9 w.a6:=h.1.fits (by decide);unfold b37;rw [a5z h,f5s];cases hwo:C3 w
 ·rfl
 have hw:WI w:=a2e.1 hwo;have hin:∀(i:Nat) (hi:i<w.a6.length),p7 (fun t:Int=>b2q w w.a6[i] t) 0=some (bif a8v w w.a6[i] then .brk () else .ret false):=by
  intro i hi;have hk0:s9 w.a6[i].a5:=(h.1.2 _ (f5v hi)).2.2.1.fits (by decide);refine a2H w.a6[i].a5 hk0 (b9x w w.a6[i]) false () ?_ ?_
  ·intro k hk _;unfold b2q;rw [w9 _ k hk,t8 hk,d17 hk];simp only [cond_true,f5s,f2o h hw];cases decide (((a02 w.a6 k w.a6[i].a5[k]:Nat):Int)<2)<;>rfl
  ·unfold b2q;rw [z9];rfl
 simp only [f5x,cond_false,f5H];rw [K6 w.a6 hf (a8v w) false ()]
 ·cases w.a6.all (a8v w)<;>rfl
 ·intro k hk;unfold b8o c0L;rw [w9 _ k hk,t8 hk];simp only [cond_true,f5s,hin k hk];cases a8v w w.a6[k]<;>rfl
 ·unfold b8o;rw [z9];rfl
theorem a8g{α:Type}{l:List α}(z:α)(b:Nat)(h:l.length*b<=140737488351232):(bif ((l.length:Int)==0) then some [] else t0 (0<=(l.length:Int)/\(l.length:Int)*(b:Int)<=140737488355328) (t0 (l.length=(f5u (l.length:Int).toNat z).length) (some l)))=some l:=by
 cases hl:((l.length:Int)==0)
 ·have:(l.length:Int)*(b:Int)=((l.length*b:Nat):Int):=by rw [Int.natCast_mul]
  rw [cond_false,u7 ⟨by omega,by omega⟩,u7 (by simp)]
 ·simp only [beq_iff_eq] at hl;rw [f5E (by omega:l.length=0)];rfl
theorem b8U{α R:Type}{body:List α×Int->Option (j9 R (List α×Int) (List α))}(l:List α)(hl:s9 l)(h1:∀(k:Nat) (hk:k<l.length),body (l,(k:Int))=some (.nxt (l.set k l[k],m7 ((k:Int)+1))))(h2:body (l,(l.length:Int))=some (.brk l)):p7 body (l,0)=some (.brk l):=by
 have:=W7 (body:=body) (fun k=>(l,(k:Int))) l.length fun k hk=>by rw [h1 k hk,F3 hl hk,f7u]
 exact this.trans (C9 h2)
theorem a6y{α:Type}{body:Int->Option (j9 Bool Int Unit)}(l:List α)(hl:s9 l)(h1:∀(k:Nat) (hk:k<l.length),body (k:Int)=some (.nxt (m7 ((k:Int)+1))))(h2:body (l.length:Int)=some (.brk ())):p7 body 0=some (.brk ()):=by
 have:=W7 (body:=body) (fun k=>(k:Int)) l.length fun k hk=>by rw [h1 k hk,F3 hl hk]
 exact this.trans (C9 h2)
theorem b5W{l:List m8}(h:A4 96 T4 l):a9e l=some l:=by
 unfold a9e;rw [show c5F l=some l from a8g _ 96 h.1,f5s,b8U l (h.fits (by decide))]
 ·rfl
 ·intro k hk;unfold b6X;rw [w9 _ k hk,cond_true,t8 hk,f5s,b3B (h.2 _ (f5v hk)).2];rfl
 ·unfold b6X;rw [z9];rfl
theorem b6s{x:z0}(h:a6C x):a45 x=some x:=by
 unfold a45;rw [b5W h.2];rfl
theorem d01{l:List Bool}(h:A4 1 okT l):b7x l=some l:=a8g _ 1 h.1
theorem d3k{l:List n8}(h:l.length*32<=140737488351232):a79 l=some l:=a8g _ 32 h
theorem d1l{l:List m9}(h:l.length*40<=140737488351232):b9U l=some l:=a8g _ 40 h
theorem b59{n:j6}(h:P5 n):a78 n=some n:=by
 obtain ⟨h1,h2,h3,h4,h5,h6,h7,h8,h9,h10,h11,h12,h13⟩:=h;unfold a78;rw [b6s h2,f5s,c0f h3,f5s,d01 h7,f5s,b5W h8,f5s,b3B h9,f5s,d01 h10,f5s,d3k h11.1,f5s,b3B h12,f5s,c0f h13];rfl
theorem e70{m:l8}(h:a0s m):b5t m=some m:=by
 unfold b5t;rw [b3B h.2.2.2.2.2.1,f5s,b5W h.2.2.2.2.2.2];rfl
theorem c6s{l:List l8}(h:A4 152 a0s l):b2F l=some l:=by
 unfold b2F;rw [show c1k l=some l from a8g _ 152 h.1,f5s,b8U l (h.fits (by decide))]
 ·rfl
 ·intro k hk;unfold b8B;rw [w9 _ k hk,cond_true,t8 hk,f5s,e70 (h.2 _ (f5v hk))];rfl
 ·unfold b8B;rw [z9];rfl
theorem c4B{w:m5}(h:U0 w):a2n w=some w:=by
 obtain ⟨h1,h2,h3,h4⟩:=h;unfold a2n c2c;rw [show c49 w.a6=some w.a6 from a8g _ 392 h1.1,f5s,c6s h2,f5s,show c1S w.d8=some w.d8 from a8g _ 40 h3.1,f5s,d1l h4.1,f5s,b8U w.a6 (h1.fits (by decide))]
 ·simp only [f5s,l9.go];rw [b8U w.d8 (h3.fits (by decide))]
  ·rfl
  ·intro k hk;unfold b6q;rw [w9 _ k hk,cond_true,t8 hk,f5s,d3k (h3.2 _ (f5v hk)).2.1];rfl
  ·unfold b6q;rw [z9];rfl
 ·intro k hk;unfold b6e;rw [w9 _ k hk,cond_true,t8 hk,f5s,b59 (h1.2 _ (f5v hk))];rfl
 ·unfold b6e;rw [z9];rfl
theorem f4W:b9l=some O1:=by
 unfold b9l;have e:∀i:Int,0<=i->i<=2->b49 i=some (C5 i):=fun i h1 h2=>by
  unfold b49;rw [N2,f5s,p9,decide_eq_true ⟨h1,h2⟩];rfl
 rw [E3 (t:=([C5 0],1)) (by unfold a9I;rw [e 0 (by omega) (by omega)];rfl),E3 (t:=([C5 0,C5 1],2)) (by unfold a9I;rw [e 1 (by omega) (by omega)];rfl),E3 (t:=([C5 0,C5 1,C5 2],3)) (by unfold a9I;rw [e 2 (by omega) (by omega)];rfl),C9 (b:=[C5 0,C5 1,C5 2]) (by unfold a9I;rfl)];show (a2n O1).bind _=_
 rw [c4B WI.open.ok];rfl
theorem b1I{e:m4}(h:E8 e):V9 e e=some true:=by
 unfold V9;have:a3W e.b8 e.b8=true:=(c4Z _ _).2 rfl;simp only [beq_self_eq_true,cond_true,c4b h.2.f,this,f5s]
theorem c1f{l:List m8}(h:A4 96 T4 l):b0K l l=some true:=by
 unfold b0K;rw [bne_self_eq_false,cond_false,a6y l (h.fits (by decide))]
 ·rfl
 ·intro k hk;unfold b7T;simp only [w9 _ k hk,cond_true,t8 hk,f5s,bne_self_eq_false,cond_false,b1I (h.2 _ (f5v hk)).2,f5x]
 ·unfold b7T;rw [z9];rfl
theorem d0T{l:List m4}(h:A4 88 E8 l):b4w l l=some true:=by
 unfold b4w;rw [bne_self_eq_false,cond_false,a6y l (h.fits (by decide))]
 ·rfl
 ·intro k hk;unfold b99;simp only [w9 _ k hk,cond_true,t8 hk,f5s,cond_false,b1I (h.2 _ (f5v hk)),f5x]
 ·unfold b99;rw [z9];rfl
theorem c7o{l:List Bool}(h:s9 l):b1X l l=some true:=by
 unfold b1X;rw [bne_self_eq_false,cond_false,a6y l h]
 ·rfl
 ·intro k hk;unfold b5c;simp only [w9 _ k hk,cond_true,t8 hk,f5s,beq_self_eq_true,cond_false,f5x]
 ·unfold b5c;rw [z9];rfl
theorem d35{l:List n8}(h:s9 l):b25 l l=some true:=by
 unfold b25 c0F;rw [bne_self_eq_false,cond_false,a6y l h]
 ·rfl
 ·intro k hk;unfold b70;simp only [w9 _ k hk,cond_true,t8 hk,f5s,beq_self_eq_true,cond_false,f5x]
 ·unfold b70;rw [z9];rfl
theorem f4Q{l:List m9}(h:s9 l):b76 l l=some true:=by
 unfold b76;rw [bne_self_eq_false,cond_false,a6y l h]
 ·rfl
 ·intro k hk;unfold b9F;simp only [w9 _ k hk,cond_true,t8 hk,f5s,beq_self_eq_true,cond_false,f5x]
 ·unfold b9F;rw [z9];rfl
theorem e5h{n:j6}(h:P5 n):b9J n n=some true:=by
 obtain ⟨h1,h2,h3,h4,h5,h6,h7,h8,h9,h10,h11,h12,h13⟩:=h;unfold b9J c1v;simp only [beq_self_eq_true,cond_true,c1f h2.2,d0T h3,c7o (h7.fits (by decide)),c1f h8,b1I h9,c7o (h10.fits (by decide)),d35 (h11.fits (by decide)),b1I h12,d0T h13,f5s]
theorem e8Y{w:m5}(h:U0 w):b4W w w=some true:=by
 obtain ⟨h1,h2,h3,h4⟩:=h;unfold b4W c2A c1R;simp only [bne_self_eq_false,cond_false,f4Q (h4.fits (by decide)),f5s,f5x];rw [a6y w.a6 (h1.fits (by decide)) (fun k hk=>by
  unfold b9E;simp only [w9 _ k hk,cond_true,t8 hk,f5s,e5h (h1.2 _ (f5v hk)),cond_false,f5x]) (by unfold b9E;rw [z9];rfl)]
 simp only [f5s,l9.go];rw [a6y w.d6 (h2.fits (by decide)) (fun k hk=>by
  have:=h2.2 _ (f5v hk);unfold b8P c2i;simp only [w9 _ k hk,cond_true,t8 hk,f5s,beq_self_eq_true,b1I this.2.2.2.2.2.1,c1f this.2.2.2.2.2.2,cond_false,f5x]) (by unfold b8P;rw [z9];rfl)]
 simp only [f5s,l9.go];rw [a6y w.d8 (h3.fits (by decide)) (fun k hk=>by
  unfold b5h;simp only [w9 _ k hk,cond_true,t8 hk,f5s,beq_self_eq_true,d35 ((h3.2 _ (f5v hk)).2.fits (by decide)),cond_false,f5x]) (by unfold b5h;rw [z9];rfl)]
 rfl
theorem d1M{a:o9}(h:s9 a.n.a5)(q:n9):b4k a q=some (N4 a.n.a5 q,a):=by
 unfold b4k;rw [b2T h,f5s,c2Q];cases a.n.a5.findIdx? (F5 q) with
 | none=>rfl
 | some k=>simp
theorem e7A{a:o9}(h:s9 a.n.a5)(q:n9):b7v a q=some (N4 a.n.a5 q,a):=by
 unfold b7v;rw [b2T h,f5s,c2Q];cases a.n.a5.findIdx? (F5 q) with
 | none=>rfl
 | some k=>simp
def qA(a:o9)(q:List m4):o9:=⟨{a.n with d9:=q},a.out,a.told⟩
theorem f1I{a:o9}{q:List m4}(h:a.n.d9=q):qA a q=a:=by
 subst h;rfl
theorem d2h{known:List m4}(hk:s9 known):∀(q:List m4) (a:o9),a.n.a5=known->A4 88 E8 q->a.n.d9=q->p7 (fun s:o9=>a4A s) a=some (match S9 known q with
  | (q',some e)=>.ret (e,true,qA a q')
  | (q',none)=>.brk (qA a q'))
 | [],a,h1,_,h2=>by
  rw [C9 (body:=fun s:o9=>a4A s) (b:=a) (by unfold a4A;rw [h2];rfl)];show _=some (l9.brk (qA a []))
  rw [f1I h2]
 | e::q,a,h1,hq,h2=>by
  have hl:(e::q).length*88<=140737488351232:=hq.1;rw [f6y] at hl;have hb:a4A a=some (bif N4 known e.a0 then .nxt (qA a q) else .ret (e,true,qA a q)):=by
   unfold a4A;rw [h2,show idx (e::q) 0=some e from rfl,show decide ((((e::q).length:Nat):Int)>0)=true by simp,cond_true,f5s,u7 (by simp;omega),show ((e::q).drop (1:Int).toNat).take ((e::q).length-(1:Int).toNat)=q by simp];rw [show (⟨⟨a.n.Id,a.n.Acc,a.n.a5,a.n.Seq,a.n.d7,a.n.a8,a.n.c8,a.n.i4,a.n.c9,a.n.a7,a.n.i8,a.n.i6,a.n.b7,q⟩,a.out,a.told⟩:o9)=qA a q from rfl,d1M (a:=qA a q) (by show s9 a.n.a5;rw [h1];exact hk),f5s,show (qA a q).n.a5=known from h1];cases N4 known e.a0<;>rfl
  unfold S9;cases hkn:N4 known e.a0
  ·rw [Y0 (body:=fun s:o9=>a4A s) (r:=(e,true,qA a q)) (by rw [hb,hkn];rfl)];rfl
  ·rw [E3 (body:=fun s:o9=>a4A s) (t:=qA a q) (by rw [hb,hkn];rfl),d2h hk q (qA a q) h1 ⟨by omega,fun x hx=>hq.2 x (f7B _ hx)⟩ rfl];rfl
def b2o(a:o9)(x:j6×Option m4):m4×Bool×o9:=match x with
 | (n,some e)=>(e,true,⟨n,a.out,a.told⟩)
 | (n,none)=>(zE,false,⟨n,a.out,a.told⟩)
theorem e4T{a:o9}(hf:s9 a.n.i4)(hv:∀v∈a.n.i4,0<=v.a8):∀(m k:Nat),a.n.i4.length-k=m->p7 (fun s:Int=>a5s a s) (k:Int)=some (bif (a.n.i4.drop k).any (fun v=>decide (v.a8>0)) then .ret (eN,true,a) else .brk ()):=by
 intro m;induction m with
 | zero =>
  intro k hk;rw [C9 (body:=fun s:Int=>a5s a s) (b:=()) (by unfold a5s;rw [show decide ((k:Int)<(a.n.i4.length:Int))=false by simp;omega];rfl),f5S (by omega)];rfl
 | succ m ih =>
  intro k hk;have hlt:k<a.n.i4.length:=by omega
  have hb:a5s a (k:Int)=some (bif decide (a.n.i4[k].a8>0) then .ret (eN,true,a) else .nxt ((k+1:Nat):Int)):=by
   have h0:=hv _ (f5v hlt);unfold a5s;rw [w9 _ k hlt,cond_true,t8 hlt,f5s,F3 hf hlt,show (a.n.i4[k].a8 != 0)=decide (a.n.i4[k].a8>0) by
    rw [f6O];simp;omega]
   cases decide (a.n.i4[k].a8>0)<;>rfl
  rw [f5U hlt,f7C];cases hd:decide (a.n.i4[k].a8>0)
  ·rw [hd] at hb;rw [E3 (body:=fun s:Int=>a5s a s) hb,ih (k+1) (by omega),f6c]
  ·rw [hd] at hb;rw [Y0 (body:=fun s:Int=>a5s a s) hb,f7v];rfl
theorem d7e{a:o9}(h:P5 a.n)(hv:∀v∈a.n.i4,0<=v.a8):b8n a=some (b2o a (a0O a.n)):=by
 obtain ⟨h1,h2,h3,h4,h5,h6,h7,h8,h9,h10,h11,h12,h13⟩:=h;have hk:s9 a.n.a5:=h3.fits (by decide);have hbf:s9 a.n.i4:=h8.fits (by decide);have j1:b8N a=some (b2o a ({a.n with d9:=(S9 a.n.a5 a.n.d9).1},(S9 a.n.a5 a.n.d9).2)):=by
  unfold b8N;rw [d2h hk _ a rfl h13 rfl];obtain ⟨q,o⟩:=S9 a.n.a5 a.n.d9;cases o<;>rfl
 have j2:(∀v,a.n.i4[a.n.a5.length]?=some v->¬v.a8>0)->b5M a=some (b2o a (a5u a.n)):=by
  intro hn;have hd:(a.n.i4.drop (a.n.a5.length+1)).any (fun v=>decide (v.a8>0))=(a.n.i4.drop a.n.a5.length).any (fun v=>decide (v.a8>0)):=by
   by_cases hl:a.n.a5.length<a.n.i4.length
   ·rw [f5U hl,f7C,show decide (a.n.i4[a.n.a5.length].a8>0)=false by
     simpa using hn _ (f5t hl),f6c]
   ·rw [f5S (by omega),f5S (by omega)]
  unfold b5M a5u;rw [C2 (by omega) (by have:=h3.1;omega),show ((a.n.a5.length:Int)+1)=((a.n.a5.length+1:Nat):Int) from rfl,e4T hbf hv _ _ rfl,hd];generalize (({a.n with d9:=(S9 a.n.a5 a.n.d9).1},(S9 a.n.a5 a.n.d9).2):j6×Option m4)=X at j1 ⊢;cases (a.n.i4.drop a.n.a5.length).any fun v=>decide (v.a8>0)
  ·simp only [cond_false,f5s,l9.go];unfold c2w;cases a.n.i8
   ·exact j1
   ·simp only [cond_true,d1M hk,f5s,f5H];cases N4 a.n.a5 a.n.b7.a0
    ·rfl
    ·exact j1
  ·rfl
 unfold b8n a0O;by_cases hl:a.n.a5.length<a.n.i4.length
 ·rw [w9 _ _ hl,t8 hl,f5t hl];have h0:=hv _ (f5v hl);rw [cond_true,f5s,show (a.n.i4[a.n.a5.length].a8 != 0)=decide (a.n.i4[a.n.a5.length].a8>0) by rw [f6O];simp;omega];simp only;cases hd:decide (a.n.i4[a.n.a5.length].a8>0)
  ·exact j2 (by rw [f5t hl];intro v hv;injection hv with hv;subst hv;simpa using hd)
  ·rfl
 ·rw [show decide ((a.n.a5.length:Int)<(a.n.i4.length:Int))=false by simp;omega,f5Q (by omega)];exact j2 (by rw [f5Q (by omega)];simp)
theorem NI.accOk{n:j6}(h:NI n):P6 n.Acc=true/\a6C n.Acc:=by
 have:=a1u.2 h;unfold D2 at this;simp only [f5w] at this;exact ⟨by simp_all,h.ok.2.1⟩
theorem b9q{a:z0}(h:P6 a=true)(ho:a6C a)(b:Int):b0N a b=some (match H7 a b with|some x=>(x,true)|none=>(a,false)):=by
 unfold b0N H7 b0L;rw [d0B ho,f5s,h,b6s ho,N2];simp only [f5x,cond_false,f5s];cases p9 b 1 3000
 ·rfl
 ·cases hd:decide (b<a.i0)
  ·rw [show decide (a.i0<=b)=true by simp at hd ⊢;omega];rfl
  ·rw [show decide (a.i0<=b)=false by simp at hd ⊢;omega];rfl
theorem e4O{a:z0}(h:P6 a=true)(ho:a6C a)(b:Int):c4O a b=some (match H7 a b with|some x=>(x,true)|none=>(a,false)):=b9q h ho b
theorem c9H(slot:Nat)(hs:slot<40):∀(m:Nat) (vs:List m8),slot+1-vs.length=m->p7 (fun s:List m8=>a7n (slot:Int) s) vs=some (.brk (S7 vs (slot+1)))
 | 0,vs,hm=>by
  rw [C9 (body:=fun s:List m8=>a7n (slot:Int) s) (b:=vs) (by unfold a7n;rw [show decide ((vs.length:Int)<=(slot:Int))=false by simp;omega];rfl)];unfold S7;rw [hm];simp
 | m+1,vs,hm=>by
  rw [E3 (body:=fun s:List m8=>a7n (slot:Int) s) (t:=vs++[v0]) (by unfold a7n;rw [show decide ((vs.length:Int)<=(slot:Int))=true by simp;omega,cond_true,u7 (by omega)];rfl),c9H slot hs m _ (by simp;omega)];unfold S7;rw [f5D,f6z,show slot+1-vs.length=(slot+1-(vs.length+1))+1 by omega,f7n,f5J];rfl
theorem c6j{a:z0}(h:P6 a=true)(ho:a6C a)(hl:a.a7.length<=40){b s:Int}(hb:I6 b){e:m4}(he:E8 e):b3j a b s e=some (match K5 a b s e with|some x=>(x,true)|none=>(a,false)):=by
 unfold b3j K5;rw [e4O h ho,f5s,N2,a6T he.f,b6s ho];cases hp:H7 a b with
 | none=>cases p9 s 0 39&&z5 e<;>rfl
 | some x =>
  obtain ⟨rfl,hb1,hb2,hb3⟩:=a4v hp;simp only [f5x,cond_false,f5s];cases hs:p9 s 0 39
  ·rfl
  cases z5 e
  ·rfl
  obtain ⟨k,rfl⟩:∃k:Nat,s=(k:Int):=⟨s.toNat,by rw [J0] at hs;omega⟩
  rw [J0] at hs;have hlen:=b4P a.a7 (k+1);have hk:k<(S7 a.a7 (k+1)).length:=by rw [hlen];omega
  simp only [f5x,Bool.and_self,cond_false,cond_true,f5s,f6I,f5P];rw [c9H k (by omega) _ _ rfl];simp only [f5s,l9.go,c5z];rw [t8 hk,f5s,f5P,b6s (x:=⟨b,(S7 a.a7 (k+1)).set k ⟨b,e⟩⟩) ⟨hb,a0r (by rw [f6M,hlen];omega) (by
   intro v hv;rcases List.mem_or_eq_of_mem_set hv with q|q
   ·rcases c0E q with q|q
    ·exact ho.2.2 v q
    ·rw [q];exact c6A
   ·rw [q];exact ⟨hb,he⟩)⟩]
  rfl
theorem a7z{a:o9}(h:a.out.length<=1000)(to:Int)(m:l8):a4j a to m=some ⟨a.n,a.out++[{m with c8:=a.n.Id,To:=to}],a.told⟩:=by
 unfold a4j;rw [u7 (by omega)]
def a0U(m:l8)(a:o9)(t:Int):o9:=bif t != a.n.Id then ⟨a.n,a.out++[{m with c8:=a.n.Id,To:=t}],a.told⟩ else a
theorem d3f(m:l8)(a:o9)(t:Int):(a0U m a t).out.length<=a.out.length+1:=by
 unfold a0U;cases t != a.n.Id<;>simp
theorem a6f{a:o9}(hid:0<=a.n.Id/\a.n.Id<=2)(h:a.out.length<=900)(m:l8):a3y a m=some ⟨a.n,a.out++H4 a.n.Id m,a.told⟩:=by
 have e:∀(a:o9) (t:Int),a.out.length<=1000->0<=t->t<3->a48 m t a=some (.nxt (t+1,a0U m a t)):=by
  intro a t ho h0 h1;unfold a48 c29 a0U;rw [show decide (t<3)=true by simpa using h1,cond_true,a7z ho,C2 (by omega) (by omega)];cases t != a.n.Id<;>rfl
 have l1:=d3f m a 0;have l2:=d3f m (a0U m a 0) (0+1);have h0:=E3 (body:=fun s:Int×o9=>a48 m s.1 s.2) (s:=(0,a)) (e a 0 (by omega) (by omega) (by omega));have h1:=E3 (body:=fun s:Int×o9=>a48 m s.1 s.2) (s:=(0+1,a0U m a 0)) (e (a0U m a 0) (0+1) (by omega) (by omega) (by omega));have h2:=E3 (body:=fun s:Int×o9=>a48 m s.1 s.2) (s:=(0+1+1,a0U m (a0U m a 0) (0+1))) (e (a0U m (a0U m a 0) (0+1)) (0+1+1) (by omega) (by omega) (by omega));have h3:=Y0 (body:=fun s:Int×o9=>a48 m s.1 s.2) (s:=(0+1+1+1,a0U m (a0U m (a0U m a 0) (0+1)) (0+1+1))) (show a48 m (0+1+1+1) _=_ from rfl);unfold a3y;rw [h0,h1,h2,h3];obtain ⟨n,o,t⟩:=a;simp only [f5s,l9.go];have hid':n.Id=0\/n.Id=1\/n.Id=2:=by have:=hid.1;have:=hid.2;simp only at *;omega
 rcases hid' with q|q|q<;>simp [a0U,H4,q]
theorem d03{a:o9}(h:0<=a.n.Id/\a.n.Id<=2):b2h a=some (a1g a.n.Id,a):=by
 obtain ⟨y,hy⟩:=c3h h;unfold b2h;rw [u7 (by decide),hy];rfl
theorem c48(a:o9):b19 a=some ⟨a4q a.n,a.out,a.told⟩:=rfl
theorem b83(a:o9)(b:Int):b0c a b=some ⟨M8 a.n b,a.out,a.told⟩:=by
 unfold b0c M8;rw [c48];cases a.n.d7 != 0
 ·rfl
 ·cases decide (b>a.n.a8)<;>rfl
theorem a0M.bal0{n:j6}(h:a0M n):∀v∈n.i4,0<=v.a8:=fun v hv=>(h.best.2 v hv).bal.1
def Z5(a:o9)(x:j6×List l8):o9:=⟨x.1,a.out++x.2,a.told⟩
theorem a8E(a:o9):Z5 a (a.n,[])=a:=by
 unfold Z5;rw [f6d]
theorem b3I{a:o9}(h:NI a.n)(ho:a.out.length<=900):a5E a=some (Z5 a (M5 a.n)):=by
 unfold a5E M5;rw [show decide ((a.n.a5.length:Int)>=40)=decide (40<=a.n.a5.length) by simp;omega];cases a.n.d7 != 2
 ·simp only [cond_false,f6c];cases hlt:decide (40<=a.n.a5.length)
  ·simp only [cond_false,d7e h.ok h.ld.bal0,f5s];obtain ⟨q,hq,hql,hqm,hqe⟩:=b0A a.n;cases hx:a0O a.n with
   | mk x o =>
   rw [hx] at hq hqe;have hq:x={a.n with d9:=q}:=hq;subst hq;cases o with
   | none =>
    simp only [b2o,f5V,cond_true,Z5];rw [f6d]
   | some e =>
    have he:=(hqe e rfl).ok h.ok;obtain ⟨c1,c2⟩:=h.accOk;simp only [b2o,f5x,cond_false];rw [c6j (a:=a.n.Acc) c1 c2 h.vl h.ok.2.2.2.2.2.1 he,f5s];simp only [a56];cases hc:K5 a.n.Acc a.n.a8 (a.n.a5.length:Int) e with
    | none =>
     simp only [f5V,cond_true,c48,f5s,Z5];rw [f6d]
    | some x =>
     simp only [f5x,cond_false];rw [d03 (by exact h.id),f5s];simp only;rw [a6f (by exact h.id) (by exact ho)];rfl
  ·simp only [cond_true];rw [a8E]
 ·simp only [cond_true,f7v];rw [a8E]
def a3A(a:o9)(x:j6×List l8×List m9):o9:=⟨x.1,a.out++x.2.1,a.told++x.2.2⟩
theorem b62(a:o9):a3A a (a.n,[],[])=a:=by
 unfold a3A;rw [f6d,f6d]
theorem e8W{a:o9}(h:NI a.n)(ho:a.out.length<=900)(ht:a.told.length<=900):b6B a=some (a3A a ((M5 (U8 a.n).1).1,(M5 (U8 a.n).1).2,(U8 a.n).2)):=by
 have hk:s9 a.n.a5:=h.ok.2.2.1.fits (by decide);obtain ⟨hl,he⟩:=a0J h.list;have j1:∀b:o9,NI b.n->b.out.length<=900->b8t b=some (Z5 b (M5 b.n)):=by
  intro b hb hbo;unfold b8t;rw [b3I hb hbo];rfl
 unfold b6B U8;rw [b2T hk,f5s];cases hb:a.n.i8
 ·simp only [cond_false,f5s,l9.go];rw [j1 a h ho];simp only [Z5,a3A,f6d]
 ·cases hf:a.n.a5.findIdx? (F5 a.n.b7.a0) with
  | none =>
   simp only [cond_true];rw [show decide ((-1:Int)>=0)=false from rfl];simp only [cond_false,f5s,l9.go];rw [j1 a h ho];simp only [Z5,a3A,f6d]
  | some k =>
   obtain ⟨hkl,h1,h2⟩:=b21 hf;have hlen:(q9 a.n.a5).2.length=a.n.a5.length:=by
    have:=(T3 hl he a.n.a5.length (f5K _)).2.1;rwa [f5M] at this
   have hc:idx (q9 a.n.a5).2 (k:Int)=some (Q0 a.n.a5 k):=by
    rw [t8 (by omega)];unfold Q0;rw [f5t (by omega)];rfl
   have hj2:∀v:Int,b6E a (Q0 a.n.a5 k) v=some (.brk ⟨a5Y a.n,a.out,a.told++[⟨a.n.Id,a.n.b7.a0,Q0 a.n.a5 k,v⟩]⟩):=by
    intro v;unfold b6E;rw [u7 (by omega)];rfl
   have hv:T8 a.n.a5 a.n.b7.a0=a.n.a5[k].b8.f0:=by
    unfold T8;rw [hf];simp only [f5t hkl]
   simp only [cond_true];rw [show decide ((k:Int)>=0)=true by simp];simp only [cond_true];rw [b5V (okEntries.f h.ok.2.2.1) hl he,f5s,hc,f5s,t8 hkl,hv];cases Q0 a.n.a5 k==0
   ·simp only [cond_false,f5s,l9.go,hj2];exact j1 ⟨a5Y a.n,a.out,_⟩ h.freeN ho
   ·simp only [cond_true,f5s,l9.go,hj2];exact j1 ⟨a5Y a.n,a.out,_⟩ h.freeN ho
theorem d5O{a:o9}(h:NI a.n)(hl:a.n.a5.length<40){e:m4}(he:z5 e=true)(ho:a.out.length<=900)(ht:a.told.length<=900):b4i a e=some (a3A a (X8 a.n e)):=by
 have hk:=e8W (a:=⟨D7 a.n e,a.out,a.told⟩) (h.know he hl) ho ht;unfold b4i;rw [u7 (by omega)];unfold D7 at hk;cases hp:a.n.d7==3
 ·rw [hp] at hk;simp only [cond_false,f5s,l9.go] at hk ⊢;refine hk.trans ?_;unfold X8 D7;rw [hp];rfl
 ·rw [hp] at hk;simp only [cond_true,f5s,l9.go] at hk ⊢;refine hk.trans ?_;unfold X8 D7;rw [hp];rfl
theorem U4.two{m:l8}(h:U4 m)(hk:m.a9=2):(m.a7.length<=40/\∀v∈m.a7,VI v)/\m.g7+m.a7.length<=40:=by
 rcases h with q|q|q|q|q|q|q
 ·omega
 ·exact ⟨q.2.2.2.1,q.2.2.2.2⟩
 all_goals exact absurd q.1 (by omega)
theorem U4.five{m:l8}(h:U4 m)(hk:m.a9=5):m.g7<40/\z5 m.g9=true:=by
 rcases h with q|q|q|q|q|q|q
 ·omega
 ·omega
 ·omega
 ·exact ⟨q.2.2.1,q.2.2.2.1⟩
 all_goals exact absurd q.1 (by omega)
theorem f1l{a:o9}(h:NI a.n){m:l8}(hm:MI m)(ho:a.out.length<=900)(hto:m.To=a.n.Id):b9C a m=some (Z5 a (a1E a.n m)):=by
 obtain ⟨c1,c2⟩:=h.accOk;have hs:=hm.sl;unfold b9C a1E;rw [b9q c1 c2,f5s];cases hp:H7 a.n.Acc m.a8 with
 | none =>
  simp only [f5V,cond_true];rw [a7z (by omega)];simp only [f5s,Z5,M2,hto]
 | some x =>
  obtain ⟨rfl,_⟩:=a4v hp;simp only [f5x,cond_false,b83,f5s];have hy:∀(n:j6) (vs:List m8),n.Id=a.n.Id->b9M m ⟨n,a.out,a.told⟩ vs=some ⟨n,a.out++[M2 m ⟨2,0,0,m.a8,m.g7,zE,vs⟩],a.told⟩:=by
   intro n vs hn;unfold b9M;rw [a7z (a:=⟨n,a.out,a.told⟩) (by exact Nat.le_trans ho (by decide))];simp only [f5s,M2,hto,hn]
  have hid:(M8 (⟨a.n.Id,⟨m.a8,a.n.Acc.a7⟩,a.n.a5,a.n.Seq,a.n.d7,a.n.a8,a.n.c8,a.n.i4,a.n.c9,a.n.a7,a.n.i8,a.n.i6,a.n.b7,a.n.d9⟩) m.a8).Id=a.n.Id:=a6c _ _;obtain ⟨k,hk⟩:∃k:Nat,m.g7=(k:Int):=⟨m.g7.toNat,by omega⟩
  cases hd:decide (m.g7<(a.n.Acc.a7.length:Int))
  ·simp only [cond_false,f5s,l9.go];rw [hy _ _ hid,f5S (by simp at hd;omega)];rfl
  ·simp only [cond_true];rw [u7 (by simp at hd;omega)];simp only [f5s,l9.go];rw [hy _ _ hid,c5x];rfl
theorem e7f{a:o9}(h:NI a.n){m:l8}(hm:MI m)(ho:a.out.length<=900)(hto:m.To=a.n.Id):b7U a m=some (Z5 a (a1S a.n m)):=by
 obtain ⟨c1,c2⟩:=h.accOk;unfold b7U a1S;rw [c6j c1 c2 h.vl hm.ok.2.2.2.1 hm.ok.2.2.2.2.2.1,f5s];cases K5 a.n.Acc m.a8 m.g7 m.g9 with
 | none =>
  simp only [f5V,cond_true];rw [a7z (by omega)];simp only [f5s,Z5,M2,hto]
 | some x =>
  simp only [f5x,cond_false,b83,f5s];rw [a7z (by simp only;omega)];simp only [f5s,Z5,M2,hto,a6c]
theorem d4A:∀(l:List Bool) (hl:s9 l) (m k:Nat) (c:Int),k+m=l.length->0<=c->c<=k->p7 (fun s:Int×Int=>a4W l s.1 s.2) (c,(k:Int))=some (.brk (c+(((l.drop k).filter (· == true)).length:Int)))
 | l,hl,0,k,c,hk,h0,h1=>by
  have:k=l.length:=by omega
  subst this;rw [C9 (body:=fun s:Int×Int=>a4W l s.1 s.2) (b:=c) (by unfold a4W;rw [z9];rfl)];simp
 | l,hl,m+1,k,c,hk,h0,h1=>by
  have hlt:k<l.length:=by omega
  have hf:=hl;unfold s9 at hf;have hb:a4W l c (k:Int)=some (.nxt (bif l[k] then c+1 else c,((k+1:Nat):Int))):=by
   unfold a4W c1h;rw [w9 _ k hlt,cond_true,t8 hlt,f5s,F3 hl hlt,C2 (by omega) (by omega)];cases l[k]<;>rfl
  rw [E3 (body:=fun s:Int×Int=>a4W l s.1 s.2) hb,d4A l hl m (k+1) _ (by omega) (by cases l[k]<;>simp<;>omega) (by cases l[k]<;>simp<;>omega),f5U hlt];cases l[k]<;>simp<;>omega
theorem d4D{l:List Bool}(h:s9 l):∃c,b15 l=some c/\decide (c>=2)=N5 l:=by
 unfold b15;rw [show p7 (fun s:Int×Int=>a4W l s.1 s.2) (0,0)=_ from d4A l h l.length 0 0 (by omega) (by omega) (by omega)];refine ⟨_,rfl,?_⟩;unfold N5;rw [f6O];simp only [f6H,decide_eq_true_eq];omega
theorem f4P{a b:List m8}(ha:a.length<=40/\∀v∈a,VI v)(hb:b.length<=40/\∀v∈b,VI v):b5f a b=some (D6 a b):=by
 have oa:=a4f (by omega) ha.2;have ob:=a4f (by omega) hb.2;have hlen:=a8V a b;have hok:A4 96 T4 (D6 a b):=a4f (by omega) fun v hv=>(b0y hv).elim (ha.2 v) (hb.2 v)
 unfold b5f;rw [b2O oa,f5s,a8e.2 ha,b2O ob,f5s,a8e.2 hb];simp only [f5x,cond_false];rw [a64 (body:=fun s:(List m8)×Int=>a5Z a b s.1 s.2) (D6 a b) (by unfold s9;omega) (fun l=>l) (by
  intro k hk;have hget:=a9R a b k;rw [f5t hk] at hget;have hj1:∀l:List m8,c06 (k:Int) l=some (.nxt (l,m7 ((k:Int)+1))):=fun _=>rfl
  have htl:(((D6 a b).take k).length+1)*96<=140737488355328:=by rw [f5L];omega
  show a5Z a b ((D6 a b).take k) (k:Int)=_
  have hstart:a5Z a b ((D6 a b).take k) (k:Int)=c0d a b ((D6 a b).take k) (k:Int):=by
   unfold a5Z;by_cases h1:k<a.length
   ·rw [w9 _ k h1];rfl
   ·rw [show decide ((k:Int)<(a.length:Int))=false by simp;omega,w9 _ k (by omega)];rfl
  rw [hstart];unfold c0d;by_cases h1:k<a.length
  ·rw [show decide ((k:Int)>=(a.length:Int))=false by simp;omega,t8 h1];rw [f5t h1] at hget;by_cases h2:k<b.length
   ·rw [show decide ((k:Int)>=(b.length:Int))=false by simp;omega,t8 h2];rw [f5t h2] at hget;injection hget with hget;simp only [cond_false,f5s,u7 htl];rw [hget,show decide (a[k].a8>=b[k].a8) = !decide (b[k].a8>a[k].a8) by rw [f6O];simp];cases decide (b[k].a8>a[k].a8)<;>rfl
   ·rw [show decide ((k:Int)>=(b.length:Int))=true by simp;omega];rw [f5Q (by omega)] at hget;injection hget with hget;simp only [cond_false,cond_true,f5s,u7 htl];rw [hget];rfl
  ·have h2:k<b.length:=by omega
   rw [show decide ((k:Int)>=(a.length:Int))=true by simp;omega,t8 h2];rw [f5Q (by omega),f5t h2] at hget;injection hget with hget;simp only [cond_true,f5s,u7 htl];rw [hget];rfl) (by
  show a5Z a b (D6 a b) ((D6 a b).length:Int)=_
  unfold a5Z;rw [show decide (((D6 a b).length:Int)<(a.length:Int))=false by simp;omega,show decide (((D6 a b).length:Int)<(b.length:Int))=false by simp;omega];rfl)]
 simp only [f5s,l9.go,c4z,b5W hok]
theorem d94{a:o9}(h:NI a.n){m:l8}(hm:MI m)(hk:m.a9=2)(ho:a.out.length<=900):b6d a m=some (Z5 a (a1V a.n m)):=by
 have hkd:=hm.kd.two hk;have hs:=hm.sl;have hf:=hm.fr;have hright:=c5M h hm hk;unfold b6d;unfold a1V at hright ⊢;by_cases p1:a.n.d7=1
 ·rw [show (a.n.d7 != 1)=false by simp [p1],f6c] at hright;rw [show (a.n.d7 != 1)=false by simp [p1],f6c];cases hb:m.a8 != a.n.a8
  ·rw [hb] at hright;simp only [cond_false] at hright ⊢;have hl:a.n.c8.length=3/\Own a.n:=by
    rcases h.ld with q|q|q|q
    ·omega
    ·exact ⟨q.2.2.1,q.2.1⟩
    all_goals exact absurd q.1 (by omega)
   obtain ⟨f,hff⟩:∃f:Nat,m.c8=(f:Int):=⟨m.c8.toNat,by omega⟩
   have hvo:(f5u m.g7.toNat v0++m.a7).length<=40/\∀v∈f5u m.g7.toNat v0++m.a7,VI v:=⟨by simp;omega,fun v hv=>(List.mem_append.1 hv).elim (fun q=>by rw [(f6m.1 q).2];exact .inl rfl) (hkd.1.2 v)⟩
   obtain ⟨c,c1,c2⟩:=d4D (l:=a.n.c8.set (f:Int).toNat true) (b5C (by simp;omega));rw [hff] at hright;rw [hff,t8 (show f<a.n.c8.length by omega),f5s,u7 (by omega),u7 (by simp;omega),show (⟨0,⟨false,⟨0,0⟩,⟨[],[],0,0⟩⟩⟩:m8)=v0 from rfl,f4P ⟨hl.2.bl,hl.2.bs⟩ hvo,f5s,c1,f5s,c2];cases htw:N5 (a.n.c8.set (f:Int).toNat true)
   ·simp only [cond_false,Z5];rw [f6d]
   ·rw [htw] at hright;simp only [cond_true] at hright ⊢;have hni:NI ⟨a.n.Id,a.n.Acc,a.n.a5,a.n.Seq,2,a.n.a8,[],D6 a.n.i4 (f5u m.g7.toNat v0++m.a7),a.n.c9,a.n.a7,a.n.i8,a.n.i6,a.n.b7,a.n.d9⟩:=by
     rcases h.ld with q|q|q|q
     ·omega
     ·exact ⟨h.id,h.pr,h.vl,h.vs,h.kl,h.ks,h.sq,h.ql,h.qs,.inr (.inr (.inl ⟨rfl,⟨q.2.1.b1,q.2.1.b2,q.2.1.mod,q.2.1.pr,by have:=a8V a.n.i4 (f5u m.g7.toNat v0++m.a7);have:=hl.2.bl;have:=hvo.1;simp only at *;omega,fun v hv=>(b0y hv).elim (hl.2.bs v) (hvo.2 v)⟩,rfl,q.2.2.2.2.1,q.2.2.2.2.2⟩)),h.wt⟩
     all_goals exact absurd q.1 (by omega)
    rw [b3I (a:=⟨⟨a.n.Id,a.n.Acc,a.n.a5,a.n.Seq,2,a.n.a8,[],D6 a.n.i4 (f5u m.g7.toNat v0++m.a7),a.n.c9,a.n.a7,a.n.i8,a.n.i6,a.n.b7,a.n.d9⟩,a.out,a.told⟩) hni ho];rfl
  ·simp only [cond_true,cond_false];rw [a8E]
 ·rw [show (a.n.d7 != 1)=true by simpa using p1];simp only [cond_true,f7v];rw [a8E]
theorem e9l{a:o9}(h:NI a.n){m:l8}(hm:MI m)(ho:a.out.length<=800)(ht:a.told.length<=800):b7g a m=some (a3A a (a2M a.n m)):=by
 have hf:=hm.fr;unfold b7g a2M;by_cases p3:a.n.d7=3
 ·rw [show (a.n.d7 != 3)=false by simp [p3],f6c];cases hb:m.a8 != a.n.a8
  ·simp only [cond_false,f6c];cases hs:m.g7 != (a.n.a5.length:Int)
   ·simp only [cond_false];have hsl:m.g7=(a.n.a5.length:Int):=by simpa using hs
    obtain ⟨q1,q2,q3,q4,q5,q6,q7⟩:a.n.d7=3/\Own a.n/\a.n.c8=[]/\z5 a.n.c9=true/\a.n.a7.length=3/\a.n.a7[a.n.Id.toNat]?=some true/\a.n.a5.length<40:=by
     rcases h.ld with q|q|q|q
     ·omega
     ·omega
     ·omega
     ·exact q
    obtain ⟨f,hff⟩:∃f:Nat,m.c8=(f:Int):=⟨m.c8.toNat,by omega⟩
    obtain ⟨c,c1,c2⟩:=d4D (l:=a.n.a7.set (f:Int).toNat true) (b5C (by simp;omega));rw [hff,t8 (show f<a.n.a7.length by omega),f5s,c1,f5s,c2];cases htw:N5 (a.n.a7.set (f:Int).toNat true)
    ·simp only [cond_false,a3A,f6d]
    ·simp only [cond_true];have hid:=h.id;have hni:NI ⟨a.n.Id,a.n.Acc,a.n.a5,a.n.Seq,a.n.d7,a.n.a8,a.n.c8,a.n.i4,a.n.c9,a.n.a7.set (f:Int).toNat true,a.n.i8,a.n.i6,a.n.b7,a.n.d9⟩ :=
      ⟨h.id,h.pr,h.vl,h.vs,h.kl,h.ks,h.sq,h.ql,h.qs,.inr (.inr (.inr ⟨q1,q2,q3,q4,by simpa using q5,by
       show (a.n.a7.set f true)[a.n.Id.toNat]?=some true
       rw [f6S];split
       ·rw [if_pos (by omega)]
       ·exact q6,q7⟩)),h.wt⟩
     have l1:=a0L a.n.Id ⟨5,0,0,0,m.g7,a.n.c9,[]⟩;rw [a6f (by exact hid) (by simp only;omega),f5s];simp only;rw [d5O (a:=⟨⟨a.n.Id,a.n.Acc,a.n.a5,a.n.Seq,a.n.d7,a.n.a8,a.n.c8,a.n.i4,a.n.c9,a.n.a7.set (f:Int).toNat true,a.n.i8,a.n.i6,a.n.b7,a.n.d9⟩,a.out++H4 a.n.Id ⟨5,0,0,0,m.g7,a.n.c9,[]⟩,a.told⟩) hni q7 q4 (by simp only [f5D];omega) (by simp only;omega),f5s,hsl];simp only [a3A,f5J]
   ·simp only [cond_true];rw [b62]
  ·simp only [cond_true,cond_false,f7v];rw [b62]
 ·rw [show (a.n.d7 != 3)=true by simpa using p3];simp only [cond_true,f7v];rw [b62]
theorem e1b{a:o9}(h:NI a.n){m:l8}(hm:MI m)(hk:m.a9=5)(ho:a.out.length<=800)(ht:a.told.length<=800)(hto:m.To=a.n.Id):b6V a m=some (a3A a (a2l a.n m)):=by
 have hkd:=hm.kd.five hk;unfold b6V a2l;cases h1:decide (m.g7<(a.n.a5.length:Int))
 ·cases h2:decide (m.g7>(a.n.a5.length:Int))
  ·simp only [cond_false];have hl:a.n.a5.length<40:=by simp at h1 h2;omega
   rw [d5O h hl hkd.2 (by omega) (by omega)];rfl
  ·simp only [cond_false,cond_true];rw [a7z (by omega)];simp only [f5s,a3A,M2,hto,f6d]
 ·simp only [cond_true];rw [b62]
theorem f1R{a:o9}(h:NI a.n){m:l8}(hm:MI m)(hk:m.a9=7)(ho:a.out.length<=800):b9X a m=some (Z5 a (a0p a.n m)):=by
 have hql:=h.ql;obtain ⟨e1,e2⟩:z5 m.g9=true/\m.g9.i7=false:=by
  rcases hm.kd with q|q|q|q|q|q|q
  ·omega
  ·omega
  ·omega
  ·omega
  ·omega
  ·exact ⟨q.2.2.2.1,q.2.2.2.2.1⟩
  ·omega
 unfold b9X a0p;rw [show decide ((a.n.d9.length:Int)>=4)=decide (4<=a.n.d9.length) by simp;omega,e7A (h.ok.2.2.1.fits (by decide))];cases a.n.d7==0
 ·simp only [cond_false,f6c];cases h4:decide (4<=a.n.d9.length)
  ·simp only [cond_false,f6c,f5s];cases N4 a.n.a5 m.g9.a0
   ·simp only [cond_false];have hni:NI {a.n with d9:=a.n.d9++[m.g9]}:=h.queue (by simp at h4 ⊢;omega) (by
     intro e he;rcases List.mem_append.1 he with q|q
     ·exact h.qs e q
     ·rw [f5y.1 q];exact ⟨e1,e2⟩)
    rw [u7 (by omega),b3I (a:=⟨{a.n with d9:=a.n.d9++[m.g9]},a.out,a.told⟩) hni (by simp only;omega)];rfl
   ·simp only [cond_true];rw [a8E]
  ·simp only [cond_true,f7v];rw [a8E]
 ·simp only [cond_true,f7v];rw [a8E]
theorem b8Z{n:j6}(h:NI n):a8H n=some ⟨n,[],[]⟩:=by
 unfold a8H;rw [b59 h.ok];rfl
theorem d8d{l:List l8}(hl:l.length<=1000)(h:∀m∈l,MI m):A4 152 a0s l:=a0r (by omega) fun m hm=>(h m hm).ok
theorem c30{a:o9}(h:NI a.n)(ho:a.out.length<=1000)(hm:∀m∈a.out,MI m)(ht:a.told.length<=1000):a1K a=some (a.n,a.out,a.told,a):=by
 unfold a1K;rw [b59 h.ok,f5s,c6s (d8d ho hm),f5s,d1l (by omega)];rfl
theorem c0G{n:j6}{x:j6×List l8}(h:S8 n x)(hl:x.2.length<=1000):a1K ⟨x.1,x.2,[]⟩=some (x.1,x.2,[],⟨x.1,x.2,[]⟩):=c30 h.ni hl h.ms (by simp)
theorem c4t(l:List n7)(prog:List n8):∀(f k:Nat) (regs:List Int) (rs:List q8) (ps:List p6),(V7 l prog f k regs rs ps).Code≠3
 | 0,_,_,_,_=>by simp [V7]
 | f+1,k,regs,rs,ps=>by
  unfold V7;cases prog[k]? with
  | none=>simp
  | some i =>
   simp only;cases i.a9==6
   ·cases i.a9==7
    ·cases (E4 l i regs rs ps).1.all I0
     ·simp
     ·exact c4t l prog f _ _ _ _
    ·simp
   ·exact c4t l prog f _ _ _ _
theorem f4j{l:List n7}(hb:C8 l=true)(p:List n8):((C1 l p).Code==3) = !E1 p:=by
 unfold C1;rw [hb,f5H];cases E1 p
 ·rfl
 ·simpa using c4t l p _ _ _ _ _
theorem e8G{n:j6}(h:NI n):b9G n=some (q9 n.a5).1:=by
 unfold b9G;rw [a75 h.ok,f5s,a1u.2 h];simp only [f5x,cond_false];rw [d2n (okEntries.f h.ok.2.2.1),h.list];rfl
theorem d4G{prog:List n8}(h:A4 32 okT prog):s9 prog:=h.fits (by decide)
theorem f4E{n:j6}(h:NI n){prog:List n8}(hp:A4 32 okT prog):b4Y n prog=some ((I8 n prog).1,(I8 n prog).2,[]):=by
 have hf:=d4G hp;have hs:=h.sq;have hr:=b1a h hf;have hlen:=c08 n prog;have e0:=c30 (a:=⟨n,[],[]⟩) h (by simp) (by simp) (by simp);rw [a1Z] at hr hlen;unfold b4Y;rw [a75 h.ok,f5s,a1u.2 h,b8Z h,a1Z,c0a hf,e8G h];simp only [f5x,cond_false,f5s];have hc:((C1 (a2x n) prog).Code==3) = !E1 prog:=f4j (b7K h) prog;rw [show (q9 n.a5).1.g8=a2x n from rfl,d6x (a3D (b7K h)) hf];unfold K3 at hr hlen ⊢;rw [hc] at hr hlen ⊢;cases hb:n.i8
 ·cases hq:n.Seq==1000
  ·cases hpo:E1 prog
   ·simp only [f5V,cond_true,cond_false,e0,f5s];rfl
   ·rw [hb,hq,hpo] at hr hlen;have hca:K3 n prog=true:=by unfold K3;rw [hc,hb,hq,hpo];rfl
    have hn:=h.asked hf hca;simp only [f5x,f5V,Bool.or_false,cond_true,cond_false,f5s] at hr hlen ⊢;rw [C2 (by omega) (by omega)];have ha:(⟨⟨n.Id,n.Acc,n.a5,n.Seq+1,n.d7,n.a8,n.c8,n.i4,n.c9,n.a7,true,prog,⟨false,⟨n.Id,n.Seq+1⟩,C1 (a2x n) prog⟩,n.d9⟩,[],[]⟩:o9)=⟨P7 n prog,[],[]⟩:=rfl;have hj:∀x:j6×List l8,S8 n x->x.2.length<=3->b7t ⟨x.1,x.2,[]⟩=some (x.1,x.2,[]):=by
     intro x hx hl;unfold b7t;rw [c0G hx (by omega)];rfl
    rw [ha];cases h2:n.d7==2
    ·rw [h2] at hr hlen;cases h0:n.d7==0
     ·rw [h0] at hr hlen;simp only [cond_false,f5s,l9.go] at hr hlen ⊢;exact hj _ hr hlen
     ·rw [h0] at hr hlen;simp only [cond_false,cond_true] at hr hlen ⊢;rw [a6f (a:=⟨P7 n prog,[],[]⟩) (by exact h.id) (by simp)];simp only [f5s,l9.go,f6o];exact hj (P7 n prog,_) hr hlen
    ·rw [h2] at hr hlen;simp only [cond_true] at hr hlen ⊢;rw [b3I (a:=⟨P7 n prog,[],[]⟩) hn (by simp)];simp only [f5s,l9.go,Z5,f6o];exact hj _ hr hlen
  ·simp only [cond_true,cond_false,e0,f5s];rfl
 ·simp only [cond_true,e0,f5s];rfl
theorem e5Y{b who:Int}(hb:0<=b/\b<=3000)(hw:0<=who/\who<=2):b8R b who=some (L4 b who):=by
 have e:∀i:Int,1<=i->i<=4->a2h who (b+i)=some (bif decide (b+i<=3000) then (bif f5W (b+i) 3==who then .ret (b+i) else .nxt (b+(i+1))) else .brk ()):=by
  intro i h1 h3;unfold a2h;rw [show decide (b+i>0)=true by simp;omega,d1Z,C2 (by omega) (by omega),Int.add_assoc];cases hd:decide (b+i<=3000)
  ·rfl
  ·rw [show Z2 (b+i)=f5W (b+i) 3 by
    unfold Z2;rw [J0.2 ⟨by omega,by simpa using hd⟩];rfl]
   simp only [cond_true,f5s];cases f5W (b+i) 3==who<;>rfl
 have hmod:∀i:Int,1<=i->f5W (b+i) 3=(b+i) % 3:=fun i hi=>Int.tmod_eq_emod_of_nonneg (by omega)
 have e1:=e 1 (by omega) (by omega);have e2:=e 2 (by omega) (by omega);have e3:=e 3 (by omega) (by omega);have m1:=hmod 1 (by omega);have m2:=hmod 2 (by omega);have m3:=hmod 3 (by omega);unfold b8R L4;rw [show decide (b<0)=false by simp;omega,N2,show p9 who 0 2=true from J0.2 hw,C2 (by omega) (by omega)];simp only [cond_false,f5s,f5x];cases q1:decide (b+1<=3000)
 ·rw [q1] at e1;rw [C9 (body:=fun s:Int=>a2h who s) e1,show decide (b+2<=3000)=false by simp at q1 ⊢;omega,show decide (b+3<=3000)=false by simp at q1 ⊢;omega];rfl
 rw [q1] at e1;cases t1:f5W (b+1) 3==who;case true=>rw [t1] at e1;rw [Y0 (body:=fun s:Int=>a2h who s) e1];rfl
 rw [t1] at e1;rw [E3 (body:=fun s:Int=>a2h who s) e1];cases q2:decide (b+2<=3000)
 ·rw [show (1:Int)+1=2 from rfl];rw [q2] at e2;rw [C9 (body:=fun s:Int=>a2h who s) e2,show decide (b+3<=3000)=false by simp at q2 ⊢;omega];rfl
 rw [q2] at e2;rw [show (1:Int)+1=2 from rfl];cases t2:f5W (b+2) 3==who;case true=>rw [t2] at e2;rw [Y0 (body:=fun s:Int=>a2h who s) e2];rfl
 rw [t2] at e2;rw [E3 (body:=fun s:Int=>a2h who s) e2,show (2:Int)+1=3 from rfl];cases q3:decide (b+3<=3000)
 ·rw [q3] at e3;rw [C9 (body:=fun s:Int=>a2h who s) e3];rfl
 rw [q3] at e3;have t3:(f5W (b+3) 3==who)=true:=by
  simp only [beq_eq_false_iff_ne,beq_iff_eq] at t1 t2 ⊢;omega
 rw [t3] at e3;rw [Y0 (body:=fun s:Int=>a2h who s) e3,t3];rfl
theorem f3u{n:j6}(h:NI n):b42 n=some (W9 n):=by
 have hr:=a96 h;have hl:=b5O n;have hj:∀x:j6×List l8,S8 n x->x.2.length<=3->b3q ⟨x.1,x.2,[]⟩=some x:=by
  intro x hx hl;unfold b3q;rw [c0G hx (by omega)];rfl
 unfold b42;unfold W9 at hr hl ⊢;rw [a75 h.ok,f5s,a1u.2 h,b8Z h,e5Y h.pr h.id];simp only [f5x,cond_false,f5s];cases hd:decide (L4 n.Acc.i0 n.Id<0)
 ·rw [hd] at hr hl;simp only [decide_eq_false_iff_not] at hd;obtain ⟨c1,c2⟩:=h.accOk;rcases b7G h.pr h.id with q|⟨q1,q2,q3,q4⟩
  ·omega
  ·have hpr:=h.pr;rw [show decide (L4 n.Acc.i0 n.Id>=0)=true by simp;omega];simp only [cond_true,cond_false,c48,f5s] at hr hl ⊢;rw [b9q (a:=(a4q n).Acc) c1 c2,show H7 (a4q n).Acc (L4 n.Acc.i0 n.Id)=some ⟨L4 n.Acc.i0 n.Id,n.Acc.a7⟩ from b4J (a:=n.Acc) (by omega) q3 (by omega),f5s,d03 (by exact h.id),f5s];simp only;have ha:=a6f (a:=⟨⟨n.Id,⟨L4 n.Acc.i0 n.Id,n.Acc.a7⟩,n.a5,n.Seq,1,L4 n.Acc.i0 n.Id,a1g n.Id,n.Acc.a7,zE,[],n.i8,n.i6,n.b7,n.d9⟩,[],[]⟩) h.id (by simp) ⟨1,0,0,L4 n.Acc.i0 n.Id,(n.a5.length:Int),zE,[]⟩;refine (congrArg (fun x:Option o9=>((x.bind fun all=>some (l9.brk all)).bind fun x:l9 (j6×List l8) o9=>x.go some fun j=>b3q j)) ha).trans ?_;simp only [f5s,l9.go,f6o];have e:=hj _ hr hl;exact e
 ·rw [hd] at hr hl;rw [show decide (L4 n.Acc.i0 n.Id>=0)=false by simp at hd ⊢;omega];simp only [cond_false,cond_true,f5s,l9.go] at hr hl ⊢;exact hj (n,[]) hr hl
theorem d87{n:j6}(h:NI n):b65 n=some ((Q8 n).1,(Q8 n).2,[]):=by
 have hr:=a9O h;have hl:=c0C n;have hj:∀x:j6×List l8,S8 n x->x.2.length<=6->b6j ⟨x.1,x.2,[]⟩=some (x.1,x.2,[]):=by
  intro x hx hl;unfold b6j;rw [c0G hx (by omega)];rfl
 have l0:=a0L n.Id ⟨8,0,0,0,(n.a5.length:Int),zE,[]⟩;unfold b65;unfold Q8 at hr hl ⊢;rw [a75 h.ok,f5s,a1u.2 h,b8Z h];simp only [f5x,cond_false,f5s];rw [a6f (a:=⟨n,[],[]⟩) (by exact h.id) (by simp)];simp only [f5s,f6o];have l1:(H4 n.Id ⟨8,0,0,0,(n.a5.length:Int),⟨false,⟨0,0⟩,⟨[],[],0,0⟩⟩,[]⟩).length<=3:=l0;cases h1:n.d7==1
 ·cases h2:n.d7==2
  ·cases h3:n.d7==3
   ·cases hbz:n.i8
    ·rw [h1,h2,h3,hbz] at hr hl;simp only [cond_false,f5s,l9.go] at hr hl ⊢;have e:=hj _ hr hl;exact e
    ·rw [h1,h2,h3,hbz] at hr hl;simp only [cond_false,cond_true] at hr hl ⊢;rw [a6f (by exact h.id) (by simp only;omega)];simp only [f5s,l9.go];have e:=hj _ hr hl;exact e
   ·rw [h1,h2,h3] at hr hl;simp only [cond_false,cond_true] at hr hl ⊢;rw [a6f (by exact h.id) (by simp only;omega)];simp only [f5s,l9.go];have e:=hj _ hr hl;exact e
  ·rw [h1,h2] at hr hl;simp only [cond_false,cond_true] at hr hl ⊢;rw [b3I (by exact h) (by simp only;omega)];simp only [f5s,l9.go];have e:=hj _ hr hl;exact e
 ·rw [h1] at hr hl;simp only [cond_true] at hr hl ⊢;rw [a6f (by exact h.id) (by simp only;omega)];simp only [f5s,l9.go];have e:=hj _ hr hl;exact e
theorem e3T{n:j6}(h:NI n):b7d n=some (a1s n):=by
 unfold b7d;rw [a75 h.ok,f5s,a1u.2 h];simp only [f5x,cond_false];rw [show (⟨n.Id,n.Acc,n.a5,n.Seq,0,0,[],[],⟨false,⟨0,0⟩,⟨[],[],0,0⟩⟩,[],false,[],⟨false,⟨0,0⟩,⟨[],[],0,0⟩⟩,[]⟩:j6)=a1s n from rfl,b59 h.fall.ok];rfl
theorem c7m{n:j6}(h:NI n){m:l8}(hto:m.To=n.Id):∀(d k:Nat) (o:List l8),n.a5.length-k=d->o.length<=k->p7 (fun s:Int×o9=>a7d m s.1 s.2) ((k:Int),⟨n,o,[]⟩)=some (.brk ⟨n,o++((f5A d).map fun j=>a1e n m (k+j)).flatten,[]⟩)
 | 0,k,o,hd,ho=>by
  have hkl:=h.kl;refine (C9 (body:=fun s:Int×o9=>a7d m s.1 s.2) (b:=⟨n,o,[]⟩) ?_).trans (by simp);unfold a7d;rw [show decide ((k:Int)<(n.a5.length:Int))=false by simp;omega];rfl
 | d+1,k,o,hd,ho=>by
  have hkl:=h.kl;have hlt:k<n.a5.length:=by omega
  have hb:a7d m (k:Int) ⟨n,o,[]⟩=some (.nxt (((k+1:Nat):Int),⟨n,o++a1e n m k,[]⟩)):=by
   unfold a7d;rw [w9 _ k hlt,cond_true];simp only;rw [t8 hlt,f5s,a7z (by simp only;omega),b7M m hlt,F3 (h.ok.2.2.1.fits (by decide)) hlt];simp only [f5s,M2,hto]
  rw [E3 (body:=fun s:Int×o9=>a7d m s.1 s.2) (s:=((k:Int),⟨n,o,[]⟩)) hb,c7m h hto d (k+1) _ (by omega) (by rw [b7M m hlt];simp;omega)];rw [List.range_succ_eq_map,f6b,f5X,f5J,f7s];simp only [f6X,Function.comp_def,Nat.succ_eq_add_one,Nat.add_assoc,Nat.add_comm 1]
theorem e0B{n:j6}(h:NI n){m:l8}(hm:MI m)(hto:m.To=n.Id):b5R n m=some (U1 n m):=by
 have hr:=b35 h hm;have hl:=b80 h m;have hj:∀x:j6×List l8×List m9,a6R n x->x.2.1.length<=60->x.2.2.length<=1->b4X ⟨x.1,x.2.1,x.2.2⟩=some x:=by
  intro x hx h1 h2;unfold b4X;rw [c30 hx.ni (by simp only;omega) hx.ms (by simp only;omega)];rfl
 have hz:NI (⟨n,[],[]⟩:o9).n:=h;unfold b5R;unfold U1 at hr hl ⊢;rw [a75 h.ok,f5s,a1u.2 h,b8Z h,c7A hm.ok,c9l.2 hm,show (m.To != n.Id)=false by simpa using hto];simp only [f5x,cond_false,f5s];by_cases k1:m.a9=1
 ·rw [show (m.a9==1)=true by simpa using k1] at hr hl ⊢;simp only [cond_true] at hr hl ⊢;rw [f1l (a:=⟨n,[],[]⟩) h hm (by simp) hto];have e:=hj _ hr hl.1 hl.2;exact e
 rw [show (m.a9==1)=false by simpa using k1] at hr hl ⊢;by_cases k2:m.a9=2
 ·rw [show (m.a9==2)=true by simpa using k2] at hr hl ⊢;simp only [cond_true,cond_false] at hr hl ⊢;rw [d94 (a:=⟨n,[],[]⟩) h hm k2 (by simp)];have e:=hj _ hr hl.1 hl.2;exact e
 rw [show (m.a9==2)=false by simpa using k2] at hr hl ⊢;by_cases k3:m.a9=3
 ·rw [show (m.a9==3)=true by simpa using k3] at hr hl ⊢;simp only [cond_true,cond_false] at hr hl ⊢;rw [e7f (a:=⟨n,[],[]⟩) h hm (by simp) hto];have e:=hj _ hr hl.1 hl.2;exact e
 rw [show (m.a9==3)=false by simpa using k3] at hr hl ⊢;by_cases k4:m.a9=4
 ·rw [show (m.a9==4)=true by simpa using k4] at hr hl ⊢;simp only [cond_true,cond_false] at hr hl ⊢;rw [e9l (a:=⟨n,[],[]⟩) h hm (by simp) (by simp)];have e:=hj _ hr hl.1 hl.2;exact e
 rw [show (m.a9==4)=false by simpa using k4] at hr hl ⊢;by_cases k5:m.a9=5
 ·rw [show (m.a9==5)=true by simpa using k5] at hr hl ⊢;simp only [cond_true,cond_false] at hr hl ⊢;rw [e1b (a:=⟨n,[],[]⟩) h hm k5 (by simp) (by simp) hto];have e:=hj _ hr hl.1 hl.2;exact e
 rw [show (m.a9==5)=false by simpa using k5] at hr hl ⊢;by_cases k6:m.a9=6
 ·rw [show (m.a9==6)=true by simpa using k6] at hr hl ⊢;obtain ⟨c1,c2⟩:=h.accOk;simp only [cond_true,cond_false] at hr hl ⊢;rw [b9q c1 c2];cases hp:H7 n.Acc m.a8
  ·rw [hp] at hr;simp only [f5s,b83,l9.go];have e:=hj _ hr hl.1 hl.2;exact e
  ·rw [hp] at hr;simp only [f5s,b83,l9.go];have e:=hj _ hr hl.1 hl.2;exact e
 rw [show (m.a9==6)=false by simpa using k6] at hr hl ⊢;by_cases k7:m.a9=7
 ·rw [show (m.a9==7)=true by simpa using k7] at hr hl ⊢;simp only [cond_true,cond_false] at hr hl ⊢;rw [f1R (a:=⟨n,[],[]⟩) h hm k7 (by simp)];have e:=hj _ hr hl.1 hl.2;exact e
 rw [show (m.a9==7)=false by simpa using k7] at hr hl ⊢;cases k8:m.a9==8
 ·rw [k8] at hr hl;simp only [cond_false,f5s,l9.go] at hr hl ⊢;have e:=hj _ hr hl.1 hl.2;exact e
 ·rw [k8] at hr hl;have hs:=hm.sl;obtain ⟨k,hk⟩:∃k:Nat,m.g7=(k:Int):=⟨m.g7.toNat,by omega⟩
  simp only [cond_false,cond_true] at hr hl ⊢;unfold a2N at hr hl ⊢;rw [hk] at hr hl ⊢;rw [f5P] at hr hl ⊢;rw [c7m h hto (n.a5.length-k) k [] rfl (by simp)];have e:=hj _ hr hl.1 hl.2;exact e
theorem c2B{l:List l8}(hl:s9 l):∀(d k:Nat) (net:List l8),net.length<=40->l.length-k=d->p7 (fun s:(List l8)×Int=>a4m l s.1 s.2) (net,(k:Int))=some (.brk (net++(l.drop k).take (40-net.length)))
 | 0,k,net,hn,hd=>by
  refine (C9 (body:=fun s:(List l8)×Int=>a4m l s.1 s.2) (b:=net) ?_).trans (by rw [f5S (by omega)];simp);unfold a4m;rw [show decide ((k:Int)<(l.length:Int))=false by simp;omega];rfl
 | d+1,k,net,hn,hd=>by
  have hlt:k<l.length:=by omega
  rw [f5U hlt];by_cases h40:net.length<40
  ·rw [E3 (body:=fun s:(List l8)×Int=>a4m l s.1 s.2) (t:=(net++[l[k]],((k+1:Nat):Int))) (by
    unfold a4m b9B;rw [w9 _ k hlt,cond_true,t8 hlt,f5s,show decide ((net.length:Int)<40)=true by simp;omega,cond_true,u7 (by simp only;omega),F3 hl hlt];rfl),c2B hl d (k+1) _ (by simp;omega) (by omega),f5D,f6z,show 40-net.length=(40-(net.length+1))+1 by omega,f7m,f5J]
   rfl
  ·rw [E3 (body:=fun s:(List l8)×Int=>a4m l s.1 s.2) (t:=(net,((k+1:Nat):Int))) (by
    unfold a4m b9B;rw [w9 _ k hlt,cond_true,t8 hlt,f5s,show decide ((net.length:Int)<40)=false by simp;omega,cond_false,F3 hl hlt];rfl),c2B hl d (k+1) _ hn (by omega),show 40-net.length=0 by omega,f6i,f6i]
theorem c5N{l:List m9}(hl:s9 l):∀(d k:Nat) (net:List m9),net.length<=60->l.length-k=d->p7 (fun s:(List m9)×Int=>a3O l s.1 s.2) (net,(k:Int))=some (.brk (net++(l.drop k).take (60-net.length)))
 | 0,k,net,hn,hd=>by
  refine (C9 (body:=fun s:(List m9)×Int=>a3O l s.1 s.2) (b:=net) ?_).trans (by rw [f5S (by omega)];simp);unfold a3O;rw [show decide ((k:Int)<(l.length:Int))=false by simp;omega];rfl
 | d+1,k,net,hn,hd=>by
  have hlt:k<l.length:=by omega
  rw [f5U hlt];by_cases h40:net.length<60
  ·rw [E3 (body:=fun s:(List m9)×Int=>a3O l s.1 s.2) (t:=(net++[l[k]],((k+1:Nat):Int))) (by
    unfold a3O b93;rw [w9 _ k hlt,cond_true,t8 hlt,f5s,show decide ((net.length:Int)<60)=true by simp;omega,cond_true,u7 (by simp only;omega),F3 hl hlt];rfl),c5N hl d (k+1) _ (by simp;omega) (by omega),f5D,f6z,show 60-net.length=(60-(net.length+1))+1 by omega,f7m,f5J]
   rfl
  ·rw [E3 (body:=fun s:(List m9)×Int=>a3O l s.1 s.2) (t:=(net,((k+1:Nat):Int))) (by
    unfold a3O b93;rw [w9 _ k hlt,cond_true,t8 hlt,f5s,show decide ((net.length:Int)<60)=false by simp;omega,cond_false,F3 hl hlt];rfl),c5N hl d (k+1) _ hn (by omega),show 60-net.length=0 by omega,f6i,f6i]
theorem b0p{w:m5}(hn:w.a6.length=3)(d9w:w.d6.length<=40)(htl:w.Told.length<=60){n:j6}(hid:0<=n.Id/\n.Id<=2){l:List l8}(hl:l.length<=100){t:List m9}(ht:t.length<=100):a4V w n l t=some (a7o (a0x (M6 w n.Id n) l) t):=by
 obtain ⟨k,hk⟩:∃k:Nat,n.Id=(k:Int):=⟨n.Id.toNat,by omega⟩
 unfold a4V;rw [hk,t8 (show k<w.a6.length by omega),f5s];rw [show p7 (fun s:(List l8)×Int=>a4m l s.1 s.2) (w.d6,0)=_ from c2B (by unfold s9;omega) l.length 0 w.d6 d9w (by omega)];simp only [f5s,l9.go,c0V];rw [show p7 (fun s:(List m9)×Int=>a3O t s.1 s.2) (w.Told,0)=_ from c5N (by unfold s9;omega) t.length 0 w.Told htl (by omega)];simp only [f5s,l9.go,c1T,f6H,hk];rfl
theorem d7b{l:List l8}{k:Nat}(hk:k<l.length)(hl:l.length<=100):b1Q l (k:Int)=some (l.take k++l.drop (k+1)):=by
 unfold b1Q;rw [C2 (by omega) (by omega)];have e1:((k:Int)+1).toNat=k+1:=by omega
 have l1:((l.drop 0).take ((k:Int).toNat-0)).length<=100:=by simp;omega
 have l2:((l.drop (k+1)).take (l.length-(k+1))).length<=100:=by simp;omega
 rw [u7 (by omega),u7 (by simp only [f6Z];omega),u7 (by omega),e1,u7 (by simp only [f5D,f6Z];omega)];rw [c5x];simp
theorem d81(n:j6)(p:List n8):(K3 n p=true/\(I8 n p).1.Seq=n.Seq+1/\(I8 n p).1.b7.a0=⟨n.Id,n.Seq+1⟩)\/(K3 n p=false/\I8 n p=(n,[])):=by
 cases hc:K3 n p
 ·right
  rw [a1Z,hc];exact ⟨rfl,rfl⟩
 ·left
  refine ⟨rfl,?_,?_⟩
  ·rw [a1Z,hc];simp only [cond_true];cases n.d7==2
   ·rfl
   ·exact (b66 (P7 n p)).seq
  ·rw [b6h hc];rfl
def onN(w:m5)(e:r9):m5 :=
 bif e.a9==1 then a28 w e.A e.i6 else
 bif e.a9==5 then a0x (M6 w e.A (W9 (G8 w e.A)).1) (W9 (G8 w e.A)).2 else
 bif e.a9==6 then a0x (M6 w e.A (Q8 (G8 w e.A)).1) (Q8 (G8 w e.A)).2 else
 bif e.a9==7 then M6 w e.A (a1s (G8 w e.A)) else w
theorem c2M(w:m5)(e:r9):D9 w e=bif e.a9==2||(e.a9==3||e.a9==4) then a06 w e else bif p9 e.A 0 2 then onN w e else w:=by
 unfold D9 onN;cases e.a9==2||(e.a9==3||e.a9==4)
 ·cases p9 e.A 0 2<;>rfl
 ·rfl
theorem d9J{w:m5}(h:WI w){e:r9}(he:Q7 e)(hi:p9 e.A 0 2=true):a6E w e=some (onN w e):=by
 rw [J0] at hi;obtain ⟨i,hA⟩:∃i:Nat,e.A=(i:Int):=⟨e.A.toNat,by omega⟩
 obtain ⟨n,hg,hn,hid,hni,hlt⟩:=a36 h (i:=i) (by omega);have hal:=h.al;unfold a6E onN;rw [hA,a8x,hg,f5s,hn];cases e.a9==1
 ·cases e.a9==5
  ·cases e.a9==6
   ·cases e.a9==7
    ·rfl
    ·simp only [cond_true,cond_false];rw [e3T hni,f5s,b0p h.nl h.ml h.tl (by exact hni.id) (by simp) (by simp),f5s,a3o,c0H];simp only [f5s,l9.go,b5I];rw [show (a1s n).Id=(i:Int) from hid]
   ·simp only [cond_true,cond_false];have hr:=a9O hni;have hl:=c0C n;rw [d87 hni,f5s];simp only;rw [b0p h.nl h.ml h.tl (by rw [hr.id];exact hni.id) (by omega) (by simp),f5s,a3o,hr.id,hid];rfl
  ·simp only [cond_true,cond_false];have hr:=a96 hni;have hl:=b5O n;rw [f3u hni,f5s,b0p h.nl h.ml h.tl (by rw [hr.id];exact hni.id) (by omega) (by simp),f5s,a3o,hr.id,hid];rfl
 ·simp only [cond_true];unfold a28;rw [show decide ((w.d8.length:Int)>=60)=decide (60<=w.d8.length) by simp;omega];cases decide (60<=w.d8.length)
  ·simp only [cond_false];have hr:=b1a hni (d4G he);have hl:=c08 n e.i6;rw [f4E hni he,f5s];simp only;rw [b0p h.nl h.ml h.tl (by rw [hr.id];exact hni.id) (by omega) (by simp),f5s,a3o,hr.id,hid,hn];rcases d81 n e.i6 with ⟨c1,c2,c3⟩|⟨c1,c2⟩
   ·rw [show ((I8 n e.i6).1.Seq != n.Seq)=true by rw [c2];simp;omega,show decide ((I8 n e.i6).1.Seq>n.Seq)=true by rw [c2];simp;omega];simp only [cond_true];rw [u7 (by show (w.d8.length+1)*40<=_;omega)];simp only [f5s,l9.go,b5I];rw [c3,c2,hid];rfl
   ·rw [c2,show (n.Seq != n.Seq)=false by simp,show decide (n.Seq>n.Seq)=false by simp];rfl
  ·rfl
theorem e1I{w:m5}(h:WI w){e:r9}{k:Nat}(hA:e.A=(k:Int))(hk:k<w.d6.length)(hkd:(e.a9==2||(e.a9==3||e.a9==4))=true):a8S w e=some (a06 w e):=by
 have hml:=h.ml;unfold a8S a06;rw [hA,t8 hk,f5s,show decide (0<=(k:Int))=true by simp,f5P,f5t hk];have hm:=h.ms _ (f5v hk);generalize w.d6[k]=m at hm;have hof:=d7b hk (by omega);have ht:=hm.to;obtain ⟨t,htt⟩:∃t:Nat,m.To=(t:Int):=⟨m.To.toNat,by omega⟩
 simp only [cond_true];by_cases k2:e.a9=2
 ·rw [show (e.a9==2)=true by simpa using k2,show (e.a9==4)=false by simp [k2],show (e.a9==3)=false by simp [k2]];simp only [cond_true,cond_false];have ho:=h.off (k:Int);obtain ⟨n,hg,hn,hid,hni,hlt⟩:=a36 ho (i:=t) (by omega);have hn':G8 w (t:Int)=n:=hn;have hg':w.a6[t]?=some n:=hg;have hr:=b35 hni hm;obtain ⟨l1,l2⟩:=b80 hni m;rw [hof,f5s,htt,a8x,hg',f5s,e0B hni hm (htt.trans hid.symm),f5s,b0p (w:=⟨w.a6,w.d6.take k++w.d6.drop (k+1),w.d8,w.Told⟩) h.nl ho.ml h.tl (by rw [hr.id];exact hni.id) (by omega) (by omega),f5s,hn',hr.id,hid];rfl
 ·rw [show (e.a9==2)=false by simpa using k2];cases k3:e.a9==3
  ·rw [show (e.a9==4)=true by rw [show (e.a9==2)=false by simpa using k2,k3] at hkd;simpa using hkd];simp only [cond_true,cond_false];obtain ⟨n,hg,hn,hid,hni,hlt⟩:=a36 h (i:=t) (by omega);rw [htt,a8x,hg,f5s,b0p h.nl h.ml h.tl hni.id (by simp) (by simp),f5s,a3o,hid,c3p hg];rfl
  ·rw [show (e.a9==4)=false by simp only [beq_iff_eq] at k3;simp [k3]];simp only [cond_true,cond_false];rw [hof];rfl
theorem e26{w:m5}(h:WI w){e:r9}(he:Q7 e):b6A w e=some (D9 w e):=by
 have hd:=d4N h he;have hml:=h.ml;have hcp:a2n w=some w:=c4B h.ok;have hcd:a2n (D9 w e)=some (D9 w e):=c4B hd.ok;have hin:m7 ((w.a6.length:Int)-1)=2:=by rw [h.nl];rfl
 have hnode:(e.a9==2||(e.a9==3||e.a9==4))=false->((D4 e.A 0 2).bind fun in_=>bif in_ then (a6E w e).bind fun o=>some (l9.brk o) else some (l9.brk w):Option (l9 m5 m5))=some (.brk (D9 w e)):=by
  intro hk;rw [N2,f5s,c2M,hk];cases hi:p9 e.A 0 2
  ·rfl
  ·simp only [cond_true,cond_false];rw [d9J h he hi];rfl
 have hmsg:(e.a9==2||(e.a9==3||e.a9==4))=true->((D4 e.A 0 (m7 ((w.d6.length:Int)-1))).bind fun in_=>bif in_ then (a8S w e).bind fun o=>some (l9.brk o) else some (l9.brk w):Option (l9 m5 m5))=some (.brk (D9 w e)):=by
  intro hk;rw [C2 (by omega) (by omega),N2,f5s,c2M,hk];cases hi:p9 e.A 0 ((w.d6.length:Int)-1)
  ·simp only [cond_true,cond_false];rw [show a06 w e=w by
    unfold a06;cases h0:decide (0<=e.A)
    ·rfl
    ·have:¬(0<=e.A/\e.A<=(w.d6.length:Int)-1):=fun q=>by rw [J0.2 q] at hi;cases hi
     have h0':0<=e.A:=of_decide_eq_true h0;rw [f5Q (by omega)];rfl]
  ·rw [J0] at hi;simp only [cond_true];rw [e1I h (k:=e.A.toNat) (by omega) (by omega) hk];rfl
 unfold b6A;rw [hcp,f5s,hin];by_cases k1:e.a9=1
 ·have hf:(e.a9==2||(e.a9==3||e.a9==4))=false:=by simp [k1]
  rw [show (e.a9==1)=true by simpa using k1];simp only [cond_true];rw [hnode hf];simp only [f5s,l9.go,c4X,hcd]
 rw [show (e.a9==1)=false by simpa using k1];by_cases k5:e.a9=5
 ·have hf:(e.a9==2||(e.a9==3||e.a9==4))=false:=by simp [k5]
  rw [show (e.a9==5)=true by simpa using k5];simp only [cond_true,cond_false];rw [hnode hf];simp only [f5s,l9.go,c2L,hcd]
 rw [show (e.a9==5)=false by simpa using k5];by_cases k6:e.a9=6
 ·have hf:(e.a9==2||(e.a9==3||e.a9==4))=false:=by simp [k6]
  rw [show (e.a9==6)=true by simpa using k6];simp only [cond_true,cond_false];rw [hnode hf];simp only [f5s,l9.go,c0S,hcd]
 rw [show (e.a9==6)=false by simpa using k6];simp only [cond_false];have fin:∀X:Option (l9 m5 m5),X=some (.brk (D9 w e))->(X.bind fun x=>x.go some fun j=>b9o j)=some (D9 w e):=by
  intro X hX;rw [hX];simp only [f5s,l9.go,b9o,hcd]
 refine fin _ ?_;by_cases k7:e.a9=7
 ·rw [show (e.a9==7)=true by simpa using k7];exact hnode (by simp [k7])
 rw [show (e.a9==7)=false by simpa using k7];by_cases k2:e.a9=2
 ·rw [show (e.a9==2)=true by simpa using k2];exact hmsg (by simp [k2])
 by_cases k3:e.a9=3
 ·rw [show (e.a9==2)=false by simpa using k2,show (e.a9==3)=true by simpa using k3];exact hmsg (by simp [k3])
 by_cases k4:e.a9=4
 ·rw [show (e.a9==2)=false by simpa using k2,show (e.a9==3)=false by simpa using k3,show (e.a9==4)=true by simpa using k4];exact hmsg (by simp [k4])
 have e2:(e.a9==2)=false:=by simpa using k2
 have e3:(e.a9==3)=false:=by simpa using k3
 have e4:(e.a9==4)=false:=by simpa using k4
 rw [e2,e3,e4,c2M,e2,e3,e4];have:onN w e=w:=by
  unfold onN;rw [show (e.a9==1)=false by simpa using k1,show (e.a9==5)=false by simpa using k5,show (e.a9==6)=false by simpa using k6,show (e.a9==7)=false by simpa using k7];rfl
 rw [this];cases p9 e.A 0 2<;>rfl
theorem f4h{w:m5}(h:WI w){e:r9}(he:Q7 e):b6c w e=some (D9 w e):=by
 unfold b6c;rw [a5z h.ok,f5s,a2e.2 h];simp only [f5x,cond_false];rw [e26 h he];rfl
def D3(i:Int):Prop:=0<=i/\i<=2
abbrev VR:=Int->Nat->Int->m4->Prop
abbrev PR:=Int->Nat->m4->Prop
abbrev MS:=l8->Prop
def a1O(V:VR)(s:Nat)(e:m4):Prop := ∃b p q,D3 p/\D3 q/\p≠q/\V p s b e/\V q s b e
structure Cov(N:Int->j6)(V:VR)(n:j6)(q:Int):Prop where
 pr:n.a8<=(N q).Acc.i0
 cv:∀s b e,n.a5.length<=s->b<n.a8->V q s b e->∃v,n.i4[s]?=some v/\b<=v.a8
def Quo(p:Int->Prop):Prop := ∃a b,D3 a/\D3 b/\a≠b/\p a/\p b
structure LD(N:Int->j6)(V:VR)(P:PR)(n:j6):Prop where
 bs:n.d7≠0->∀s v,n.i4[s]?=some v->v.a8>0->v.a8<n.a8/\∃q,V q s v.a8 v.g9
 l1:n.d7=1->(∀s e,¬P n.a8 s e)/\∀q,D3 q->n.c8[q.toNat]?=some true->Cov N V n q
 l2:n.d7=2->(∀s e,P n.a8 s e->s<n.a5.length)/\Quo (Cov N V n)
 l3:n.d7=3->P n.a8 n.a5.length n.c9/\(∀s e,P n.a8 s e->s<=n.a5.length)/\Quo (Cov N V n)/\∀q,D3 q->n.a7[q.toNat]?=some true->V q n.a5.length n.a8 n.c9
structure MV(N:Int->j6)(V:VR)(P:PR)(m:l8):Prop where
 k1:m.a9=1->f5W m.a8 3=m.c8/\m.g7<=(N m.c8).a5.length
 k2:m.a9=2->m.g7<=(N m.To).a5.length/\m.a8<=(N m.c8).Acc.i0/\(∀s b e,m.g7.toNat<=s->b<m.a8->V m.c8 s b e->∃v,m.a7[s-m.g7.toNat]?=some v/\b<=v.a8)/\∀k v,m.a7[k]?=some v->v.a8>0->v.a8<=m.a8/\V m.c8 (m.g7.toNat+k) v.a8 v.g9
 k3:m.a9=3->P m.a8 m.g7.toNat m.g9
 k4:m.a9=4->∃e,V m.c8 m.g7.toNat m.a8 e
 k5:m.a9=5->a1O V m.g7.toNat m.g9
def Sf(N:Int->j6)(V:VR)(b:Int)(s:Nat)(e:m4)(q:Int):Prop :=
 b<=(N q).Acc.i0/\∀b' e',b'<b->V q s b' e'->∃b1 q1,b'<=b1/\b1<b/\V q1 s b1 e
structure PX(N:Int->j6)(V:VR)(P:PR)(M:MS):Prop where
 ni:∀i,D3 i->NI (N i)/\(N i).Id=i
 vp:∀i s b e,V i s b e->D3 i/\P b s e/\1<=b/\b<=(N i).Acc.i0
 cur:∀i s v,D3 i->(N i).Acc.a7[s]?=some v->v.a8>0->V i s v.a8 v.g9
 max:∀i s b e,V i s b e->∃v,(N i).Acc.a7[s]?=some v/\b<=v.a8
 pu:∀b s e e',P b s e->P b s e'->e=e'
 po:∀b s e,P b s e->1<=b/\b<=(N (f5W b 3)).Acc.i0
 safe:∀b s e,P b s e->Quo (Sf N V b s e)
 ld:∀i,D3 i->LD N V P (N i)
 kn:∀i s e,D3 i->(N i).a5[s]?=some e->a1O V s e
 ms:∀m,M m->MI m/\MV N V P m
theorem e6h{p q:Int->Prop}(hp:Quo p)(hq:Quo q):∃a,D3 a/\p a/\q a:=by
 obtain ⟨a,b,ha,hb,hab,pa,pb⟩:=hp;obtain ⟨c,d,hc,hd,hcd,qc,qd⟩:=hq;unfold D3 at *;by_cases h1:a=c
 ·exact ⟨a,ha,pa,h1▸qc⟩
 by_cases h2:a=d
 ·exact ⟨a,ha,pa,h2▸qd⟩
 by_cases h3:b=c
 ·exact ⟨b,hb,pb,h3▸qc⟩
 by_cases h4:b=d
 ·exact ⟨b,hb,pb,h4▸qd⟩
 omega
section
variable {N:Int->j6} {V:VR} {P:PR} {M:MS}
theorem PX.later(h:PX N V P M){s:Nat}{b0:Int}{e0:m4}(hc:Quo fun q=>V q s b0 e0):∀(k:Nat) (b:Int) (e:m4),b.toNat=k->b0<=b->P b s e->e=e0:=by
 have h0:P b0 s e0:=by obtain ⟨p,q,_,_,_,v,_⟩:=hc;exact (h.vp _ _ _ _ v).2.1
 intro k;induction k using Nat.strongRecOn with
 | _ k ih =>
  intro b e hb hle hp;by_cases hq:b0=b
  ·subst hq;exact h.pu _ _ _ _ hp h0
  ·obtain ⟨a,ha,v,s1,s2⟩:=e6h hc (h.safe b s e hp);obtain ⟨b1,q1,h1,h2,h3⟩:=s2 b0 e0 (by omega) v;obtain ⟨_,p1,p2,_⟩:=h.vp _ _ _ _ h3;exact ih b1.toNat (by omega) b1 e rfl h1 p1
theorem PX.one(h:PX N V P M){s:Nat}{e e':m4}(h1:a1O V s e)(h2:a1O V s e'):e=e':=by
 obtain ⟨b,p,q,hp,hq,hpq,v1,v2⟩:=h1;obtain ⟨b',p',q',hp',hq',hpq',w1,w2⟩:=h2;have c1:Quo fun q=>V q s b e:=⟨p,q,hp,hq,hpq,v1,v2⟩
 have c2:Quo fun q=>V q s b' e':=⟨p',q',hp',hq',hpq',w1,w2⟩
 rcases Int.le_total b b' with hl|hl
 ·exact (h.later c1 _ b' e' rfl hl (h.vp _ _ _ _ w1).2.1).symm
 ·exact h.later c2 _ b e rfl hl (h.vp _ _ _ _ v1).2.1
theorem PX.still(h:PX N V P M){s:Nat}{e:m4}(hc:a1O V s e):Quo fun q => ∃v,(N q).Acc.a7[s]?=some v/\v.a8>0/\v.g9=e:=by
 obtain ⟨b,p,q,hp,hq,hpq,v1,v2⟩:=hc;have c1:Quo fun q=>V q s b e:=⟨p,q,hp,hq,hpq,v1,v2⟩
 have key:∀a,D3 a->V a s b e->∃v,(N a).Acc.a7[s]?=some v/\v.a8>0/\v.g9=e:=by
  intro a ha va;obtain ⟨v,x1,x2⟩:=h.max _ _ _ _ va;have hb:=(h.vp _ _ _ _ va).2.2.1;have vv:=h.cur a s v ha x1 (by omega);exact ⟨v,x1,by omega,h.later c1 _ v.a8 v.g9 rfl x2 (h.vp _ _ _ _ vv).2.1⟩
 exact ⟨p,q,hp,hq,hpq,key p hp v1,key q hq v2⟩
end
def upd(N:Int->j6)(i:Int)(n:j6):Int->j6:=fun j=>if j=i then n else N j
theorem R6(N:Int->j6)(i:Int)(n:j6):upd N i n i=n:=if_pos rfl
theorem b1f{N:Int->j6}{i j:Int}(n:j6)(h:j≠i):upd N i n j=N j:=if_neg h
theorem a3z(N:Int->j6)(i:Int)(a b:j6):upd (upd N i a) i b=upd N i b:=by
 funext j;unfold upd;split<;>rfl
theorem a8q(N:Int->j6)(i:Int):upd N i (N i)=N:=by
 funext j;unfold upd;split
 ·rename_i h;rw [h]
 ·rfl
theorem a0M.own{n:j6}(h:a0M n)(hp:n.d7≠0):Own n:=by
 rcases h with q|q|q|q
 ·exact absurd q.1 hp
 ·exact q.2.1
 ·exact q.2.1
 ·exact q.2.1
structure Chg(N:Int->j6)(V:VR)(P:PR)(M:MS)(i:Int)(n':j6)(V':VR)(P':PR)(M':MS):Prop where
 ni:NI n'
 id:n'.Id=i
 pr:(N i).Acc.i0<=n'.Acc.i0
 kl:(N i).a5.length<=n'.a5.length
 v1:∀q s b e,V q s b e->V' q s b e
 v2:∀q s b e,V' q s b e->V q s b e\/(q=i/\(N i).Acc.i0<=b/\1<=b/\b<=n'.Acc.i0/\P' b s e)
 p1:∀b s e,P b s e->P' b s e
 p2:∀b s e,P' b s e->P b s e\/(b=n'.a8/\n'.d7=3/\(∀e',P' b s e'->e'=e)/\Quo (Sf (upd N i n') V' b s e))
 cur:∀s v,n'.Acc.a7[s]?=some v->v.a8>0->V' i s v.a8 v.g9
 max:∀s b e,V' i s b e->∃v,n'.Acc.a7[s]?=some v/\b<=v.a8
 ld:LD (upd N i n') V' P' n'
 kn:∀s e,n'.a5[s]?=some e->a1O V' s e
 ms:∀m,M' m->M m\/(MI m/\MV (upd N i n') V' P' m)
section
variable {N:Int->j6} {V:VR} {P:PR} {M:MS} {i:Int} {n':j6} {V':VR} {P':PR} {M':MS}
theorem Chg.prm(c:Chg N V P M i n' V' P' M')(q:Int):(N q).Acc.i0<=(upd N i n' q).Acc.i0:=by
 unfold upd;split
 ·rename_i h;rw [h];exact c.pr
 ·exact f5R _
theorem Chg.len(c:Chg N V P M i n' V' P' M')(q:Int):(N q).a5.length<=(upd N i n' q).a5.length:=by
 unfold upd;split
 ·rename_i h;rw [h];exact c.kl
 ·exact f5K _
theorem Chg.old(c:Chg N V P M i n' V' P' M'){q:Int}{s:Nat}{b x:Int}{e:m4}(hx:x<=(N q).Acc.i0)(hb:b<x)(v:V' q s b e):V q s b e:=by
 rcases c.v2 q s b e v with v|⟨rfl,v1,_⟩
 ·exact v
 ·omega
theorem Chg.cov(c:Chg N V P M i n' V' P' M'){n:j6}{q:Int}(h:Cov N V n q):Cov (upd N i n') V' n q :=
 ⟨f6q h.pr (c.prm q),fun s b e hs hb v=>h.cv s b e hs hb (c.old h.pr hb v)⟩
theorem Quo.imp{p q:Int->Prop}(h:Quo p)(hi:∀a,D3 a->p a->q a):Quo q:=by
 obtain ⟨a,b,ha,hb,hab,pa,pb⟩:=h;exact ⟨a,b,ha,hb,hab,hi a ha pa,hi b hb pb⟩
theorem Chg.sf(c:Chg N V P M i n' V' P' M'){b:Int}{s:Nat}{e:m4}{q:Int}(h:Sf N V b s e q):Sf (upd N i n') V' b s e q :=
 ⟨f6q h.1 (c.prm q),fun b' e' hb v=>by
  obtain ⟨b1,q1,x1,x2,x3⟩:=h.2 b' e' hb (c.old h.1 hb v);exact ⟨b1,q1,x1,x2,c.v1 _ _ _ _ x3⟩⟩
theorem a1O.mono(h:∀q s b e,V q s b e->V' q s b e){s:Nat}{e:m4}(hc:a1O V s e):a1O V' s e:=by
 obtain ⟨b,p,q,hp,hq,hpq,v1,v2⟩:=hc;exact ⟨b,p,q,hp,hq,hpq,h _ _ _ _ v1,h _ _ _ _ v2⟩
theorem Chg.ldo(c:Chg N V P M i n' V' P' M')(hi:D3 i){n:j6}(hn:NI n)(hne:n.Id≠i)(h:LD N V P n):LD (upd N i n') V' P' n:=by
 have hp:n.d7≠0->∀s e,P' n.a8 s e->P n.a8 s e:=by
  intro h0 s e hp;rcases c.p2 _ _ _ hp with q|⟨hb,h3,_⟩
  ·exact q
  ·exfalso
   have o1:=(hn.ld.own h0).mod;have o2:=(c.ni.ld.own (by omega)).mod;rw [<-hb,o1,c.id] at o2;exact hne o2
 refine ⟨fun h0 s v hs hv => ?_,fun h1 => ?_,fun h2 => ?_,fun h3 => ?_⟩
 ·obtain ⟨x1,q,x2⟩:=h.bs h0 s v hs hv;exact ⟨x1,q,c.v1 _ _ _ _ x2⟩
 ·obtain ⟨x1,x2⟩:=h.l1 h1;exact ⟨fun s e q=>x1 s e (hp (by omega) s e q),fun q hq hf=>c.cov (x2 q hq hf)⟩
 ·obtain ⟨x1,x2⟩:=h.l2 h2;exact ⟨fun s e q=>x1 s e (hp (by omega) s e q),x2.imp fun a _=>c.cov⟩
 ·obtain ⟨x1,x2,x3,x4⟩:=h.l3 h3;exact ⟨c.p1 _ _ _ x1,fun s e q=>x2 s e (hp (by omega) s e q),x3.imp fun a _=>c.cov,fun q hq hv=>c.v1 _ _ _ _ (x4 q hq hv)⟩
theorem Chg.msg(c:Chg N V P M i n' V' P' M'){m:l8}(h:MV N V P m):MV (upd N i n') V' P' m:=by
 refine ⟨fun k => ?_,fun k => ?_,fun k=>c.p1 _ _ _ (h.k3 k),fun k => ?_,fun k=>(h.k5 k).mono c.v1⟩
 ·obtain ⟨x1,x2⟩:=h.k1 k;have:=c.len m.c8;exact ⟨x1,by omega⟩
 ·obtain ⟨x1,x2,x3,x4⟩:=h.k2 k;have:=c.len m.To;refine ⟨by omega,f6q x2 (c.prm _),fun s b e hs hb v=>x3 s b e hs hb (c.old x2 hb v),fun k v hk hv => ?_⟩;obtain ⟨y1,y2⟩:=x4 k v hk hv;exact ⟨y1,c.v1 _ _ _ _ y2⟩
 ·obtain ⟨e,x⟩:=h.k4 k;exact ⟨e,c.v1 _ _ _ _ x⟩
theorem PX.step(h:PX N V P M)(hi:D3 i)(c:Chg N V P M i n' V' P' M'):PX (upd N i n') V' P' M':=by
 have hpo:∀b s e,P' b s e->1<=b/\b<=(upd N i n' (f5W b 3)).Acc.i0:=by
  intro b s e hp;rcases c.p2 _ _ _ hp with q|⟨rfl,h3,_⟩
  ·obtain ⟨x1,x2⟩:=h.po _ _ _ q;exact ⟨x1,f6q x2 (c.prm _)⟩
  ·have o:=c.ni.ld.own (by omega);have ho:=o.mod;rw [c.id] at ho;rw [ho,R6];exact ⟨o.b1,o.pr⟩
 refine ⟨fun j hj => ?_,fun j s b e v => ?_,fun j s v hj hs hv => ?_,fun j s b e v => ?_,fun b s e e' p p' => ?_,hpo,fun b s e p => ?_,fun j hj => ?_,fun j s e hj hk => ?_,fun m hm => ?_⟩
 ·by_cases q:j=i
  ·subst q;rw [R6];exact ⟨c.ni,c.id⟩
  ·rw [b1f _ q];exact h.ni j hj
 ·rcases c.v2 _ _ _ _ v with v|⟨rfl,x1,x2,x3,x4⟩
  ·obtain ⟨x1,x2,x3,x4⟩:=h.vp _ _ _ _ v;exact ⟨x1,c.p1 _ _ _ x2,x3,f6q x4 (c.prm _)⟩
  ·rw [R6];exact ⟨hi,x4,x2,x3⟩
 ·by_cases q:j=i
  ·subst q;rw [R6] at hs;exact c.cur s v hs hv
  ·rw [b1f _ q] at hs;exact c.v1 _ _ _ _ (h.cur j s v hj hs hv)
 ·by_cases q:j=i
  ·subst q;rw [R6];exact c.max s b e v
  ·rw [b1f _ q];rcases c.v2 _ _ _ _ v with v|⟨x,_⟩
   ·exact h.max _ _ _ _ v
   ·exact absurd x q
 ·rcases c.p2 _ _ _ p with p|⟨_,_,x,_⟩
  ·rcases c.p2 _ _ _ p' with p'|⟨_,_,x,_⟩
   ·exact h.pu _ _ _ _ p p'
   ·exact x e (c.p1 _ _ _ p)
  ·exact (x e' p').symm
 ·rcases c.p2 _ _ _ p with p|⟨_,_,_,x⟩
  ·exact (h.safe _ _ _ p).imp fun a _=>c.sf
  ·exact x
 ·by_cases q:j=i
  ·subst q;rw [R6];exact c.ld
  ·rw [b1f _ q];exact c.ldo hi (h.ni j hj).1 (by rw [(h.ni j hj).2];exact q) (h.ld j hj)
 ·by_cases q:j=i
  ·subst q;rw [R6] at hk;exact c.kn s e hk
  ·rw [b1f _ q] at hk;exact (h.kn j s e hj hk).mono c.v1
 ·rcases c.ms m hm with q|q
  ·exact ⟨(h.ms m q).1,c.msg (h.ms m q).2⟩
  ·exact q
end
def snd(M:MS)(l:List l8):MS:=fun m=>M m\/m∈l
def M1(N:Int->j6)(M:MS)(i:Int)(n':j6)(l:List l8):Prop := ∃V' P',PX (upd N i n') V' P' (snd M l)
section
variable {N N':Int->j6} {V V':VR} {P P':PR} {M:MS} {i:Int} {n n':j6}
theorem PX.send(h:PX N V P M){l:List l8}(hl:∀m∈l,MI m/\MV N V P m):PX N V P (snd M l) :=
 {h with ms:=fun m hm=>hm.elim (h.ms m) (hl m)}
theorem a8s(M:MS):snd M []=M:=by
 funext m;unfold snd;simp
theorem c7Y(M:MS)(a b:List l8):snd (snd M a) b=snd M (a++b):=by
 funext m;unfold snd;simp [or_assoc]
theorem M1.same(h:PX N V P M):M1 N M i (N i) []:=⟨V,P,by rw [a8q,a8s];exact h⟩
theorem LD.same(h:LD N V P n)(hpr:∀q,(N q).Acc.i0<=(N' q).Acc.i0)(hV:∀q s b e,V q s b e->V' q s b e)(hold:∀q s b x e,x<=(N q).Acc.i0->b<x->V' q s b e->V q s b e)(hP:∀b s e,P b s e->P' b s e)(hP':∀s e,P' n.a8 s e->P n.a8 s e)(e1:n'.d7=n.d7)(e2:n'.a8=n.a8)(e3:n'.i4=n.i4)(e4:n'.a5=n.a5)(e5:n'.c8=n.c8)(e6:n'.c9=n.c9)(e7:n'.a7=n.a7):LD N' V' P' n':=by
 have hc:∀q,Cov N V n q->Cov N' V' n' q:=fun q c=>by
  refine ⟨by rw [e2];exact f6q c.pr (hpr q),?_⟩;rw [e2,e3,e4];exact fun s b e hs hb v=>c.cv s b e hs hb (hold _ _ _ _ _ c.pr hb v)
 refine ⟨?_,?_,?_,?_⟩
 ·rw [e1,e2,e3];intro h0 s v hs hv;obtain ⟨x1,q,x2⟩:=h.bs h0 s v hs hv;exact ⟨x1,q,hV _ _ _ _ x2⟩
 ·rw [e1,e2,e5];intro h1;obtain ⟨x1,x2⟩:=h.l1 h1;exact ⟨fun s e p=>x1 s e (hP' s e p),fun q hq hf=>hc q (x2 q hq hf)⟩
 ·rw [e1,e2,e4];intro h2;obtain ⟨x1,x2⟩:=h.l2 h2;exact ⟨fun s e p=>x1 s e (hP' s e p),x2.imp fun q _=>hc q⟩
 ·rw [e1,e2,e4,e6,e7];intro h3;obtain ⟨x1,x2,x3,x4⟩:=h.l3 h3;exact ⟨hP _ _ _ x1,fun s e p=>x2 s e (hP' s e p),x3.imp fun q _=>hc q,fun q hq hv=>hV _ _ _ _ (x4 q hq hv)⟩
theorem LD.none(h:n.d7=0):LD N V P n:=⟨fun q=>absurd h q,fun q=>by omega,fun q=>by omega,fun q=>by omega⟩
theorem a8B(hpr:(N i).Acc.i0<=n'.Acc.i0)(q:Int):(N q).Acc.i0<=(upd N i n' q).Acc.i0:=by
 unfold upd;split
 ·rename_i h;rw [h];exact hpr
 ·exact f5R _
theorem PX.quiet(h:PX N V P M)(hi:D3 i)(hni:NI n')(hid:n'.Id=i)(hpr:(N i).Acc.i0<=n'.Acc.i0)(hvt:n'.Acc.a7=(N i).Acc.a7)(hk:n'.a5=(N i).a5)(hld:LD (upd N i n') V P n'):PX (upd N i n') V P M :=
 h.step hi ⟨hni,hid,hpr,by rw [hk];exact f5K _,fun _ _ _ _ v=>v,fun _ _ _ _ v=>.inl v,fun _ _ _ p=>p,fun _ _ _ p=>.inl p,by rw [hvt];exact fun s v=>h.cur i s v hi,by rw [hvt];exact fun s b e=>h.max i s b e,hld,by rw [hk];exact fun s e=>h.kn i s e hi,fun m hm=>.inl hm⟩
theorem PX.keep(h:PX N V P M)(hi:D3 i)(hni:NI n')(hid:n'.Id=i)(hpr:(N i).Acc.i0<=n'.Acc.i0)(hvt:n'.Acc.a7=(N i).Acc.a7)(hk:n'.a5=(N i).a5)(e1:n'.d7=(N i).d7)(e2:n'.a8=(N i).a8)(e3:n'.i4=(N i).i4)(e5:n'.c8=(N i).c8)(e6:n'.c9=(N i).c9)(e7:n'.a7=(N i).a7):PX (upd N i n') V P M :=
 h.quiet hi hni hid hpr hvt hk ((h.ld i hi).same (a8B hpr) (fun _ _ _ _ v=>v) (fun _ _ _ _ _ _ _ v=>v) (fun _ _ _ p=>p) (fun _ _ p=>p) e1 e2 e3 hk e5 e6 e7)
theorem PX.down(h:PX N V P M)(hi:D3 i):PX (upd N i (a4q (N i))) V P M :=
 h.quiet hi (h.ni i hi).1.down (h.ni i hi).2 (f5R _) rfl rfl (.none rfl)
theorem PX.promise(h:PX N V P M)(hi:D3 i){b:Int}{x:z0}(hp:H7 (N i).Acc b=some x):PX (upd N i {N i with Acc:=x}) V P M:=by
 obtain ⟨rfl,h1,h2,h3⟩:=a4v hp;exact h.keep hi ((h.ni i hi).1.promise hp) (h.ni i hi).2 h3 rfl rfl rfl rfl rfl rfl rfl rfl
theorem PX.yield(h:PX N V P M)(hi:D3 i)(b:Int):PX (upd N i (M8 (N i) b)) V P M:=by
 unfold M8;cases (N i).d7 != 0&&decide (b>(N i).a8)
 ·simp only [cond_false];rw [a8q];exact h
 ·exact h.down hi
theorem PX.free(h:PX N V P M)(hi:D3 i):PX (upd N i (U8 (N i)).1) V P M:=by
 rcases a9p (N i) with q|⟨k,_,_,q⟩<;>rw [q]
 ·rw [a8q];exact h
 ·exact h.keep hi (h.ni i hi).1.freeN (h.ni i hi).2 (f5R _) rfl rfl rfl rfl rfl rfl rfl rfl
theorem d65{vs:List m8}{n s:Nat}{v:m8}(h:(S7 vs n)[s]?=some v):vs[s]?=some v\/v=v0:=by
 unfold S7 at h;rw [f7x] at h;split at h
 ·exact .inl h
 ·rw [List.getElem?_replicate] at h;split at h
  ·injection h with h;exact .inr h.symm
  ·cases h
theorem e58{vs:List m8}{s:Nat}{v:m8}(n:Nat)(h:vs[s]?=some v):(S7 vs n)[s]?=some v:=by
 unfold S7;rw [f5O (f5z.1 h).1];exact h
def a81(V:VR)(i:Int)(k:Nat)(b:Int)(e:m4):VR:=fun q s c f=>V q s c f\/(q=i/\s=k/\c=b/\f=e)
theorem d0C(h:PX N V P M)(hi:D3 i){b s:Int}{e:m4}{x:z0}(hc:K5 (N i).Acc b s e=some x):∃k:Nat,s=(k:Int)/\k<40/\1<=b/\b<=3000/\(N i).Acc.i0<=b/\x.i0=b/\z5 e=true/\
  (∀s v,x.a7[s]?=some v->v.a8>0->a81 V i k b e i s v.a8 v.g9)/\(∀s c f,a81 V i k b e i s c f->∃v,x.a7[s]?=some v/\c<=v.a8):=by
 obtain ⟨k,rfl,hk,he,h1,h2,h3,rfl⟩:=b63 hc;have hlen:k<(S7 (N i).Acc.a7 (k+1)).length:=by rw [b4P];omega
 refine ⟨k,rfl,hk,h1,h2,h3,rfl,he,fun s v hs hv => ?_,fun s c f v => ?_⟩
 ·simp only [f6S] at hs;split at hs
  ·rename_i hq;injection hs with hs;subst hs;exact .inr ⟨rfl,hq.symm,rfl,rfl⟩
  ·rcases d65 hs with q|q
   ·exact .inl (h.cur i s v hi q hv)
   ·rw [q] at hv;exact absurd hv (by decide)
 ·simp only [f6S];by_cases hq:k=s
  ·subst hq;rw [if_pos rfl,if_pos hlen];refine ⟨_,rfl,?_⟩;rcases v with v|⟨_,_,rfl,_⟩
   ·have:=(h.vp _ _ _ _ v).2.2.2;simp only;omega
   ·exact f5R _
  ·rw [if_neg hq];rcases v with v|⟨_,x,_⟩
   ·obtain ⟨v',y1,y2⟩:=h.max _ _ _ _ v;exact ⟨v',e58 _ y1,y2⟩
   ·exact absurd x.symm hq
theorem c1a{k:Nat}{b:Int}{e:m4}(hb:(N i).Acc.i0<=b){q:Int}{s:Nat}{c x:Int}{f:m4}(hx:x<=(N q).Acc.i0)(hc:c<x)(v:a81 V i k b e q s c f):V q s c f:=by
 rcases v with v|⟨rfl,_,rfl,_⟩
 ·exact v
 ·omega
theorem PX.vote(h:PX N V P M)(hi:D3 i){b s:Int}{e:m4}{x:z0}(hc:K5 (N i).Acc b s e=some x)(hp:P b s.toNat e):PX (upd N i {N i with Acc:=x}) (a81 V i s.toNat b e) P M:=by
 obtain ⟨k,rfl,hk,h1,h2,h3,h4,he,c1,c2⟩:=d0C h hi hc;rw [f5P] at hp ⊢;have hpr:(N i).Acc.i0<=({N i with Acc:=x}:j6).Acc.i0:=by show _<=x.i0;rw [h4];exact h3
 refine h.step hi ⟨(h.ni i hi).1.cast hc,(h.ni i hi).2,hpr,f5K _,fun _ _ _ _ v=>.inl v,fun q s c f v => ?_,fun _ _ _ p=>p,fun _ _ _ p=>.inl p,c1,c2,?_,fun s e hk=>(h.kn i s e hi hk).mono fun _ _ _ _ v=>.inl v,fun m hm=>.inl hm⟩
 ·rcases v with v|⟨rfl,rfl,rfl,rfl⟩
  ·exact .inl v
  ·exact .inr ⟨rfl,h3,h1,by show _<=x.i0;rw [h4];exact f5R _,hp⟩
 ·exact (h.ld i hi).same (a8B hpr) (fun _ _ _ _ v=>.inl v) (fun q s c x f hx hc v=>c1a h3 hx hc v) (fun _ _ _ p=>p) (fun _ _ p=>p) rfl rfl rfl rfl rfl rfl rfl
theorem PX.know(h:PX N V P M)(hi:D3 i){e:m4}(he:z5 e=true)(hl:(N i).a5.length<40)(hc:a1O V (N i).a5.length e):PX (upd N i (D7 (N i) e)) V P M:=by
 have hk:=c5C (N i) e;have hacc:(D7 (N i) e).Acc=(N i).Acc:=by unfold D7;cases (N i).d7==3<;>rfl
 have hb:(D7 (N i) e).a8=(N i).a8:=by unfold D7;cases (N i).d7==3<;>rfl
 have hbe:(D7 (N i) e).i4=(N i).i4:=by unfold D7;cases (N i).d7==3<;>rfl
 have hpr:(N i).Acc.i0<=(D7 (N i) e).Acc.i0:=by rw [hacc];exact f5R _
 have hcov:∀q,Cov N V (N i) q->Cov (upd N i (D7 (N i) e)) V (D7 (N i) e) q:=fun q c=>by
  refine ⟨by rw [hb];exact f6q c.pr (a8B hpr q),?_⟩;rw [hb,hbe,hk,f5D];exact fun s b e hs hb v=>c.cv s b e (by omega) hb v
 refine h.step hi ⟨(h.ni i hi).1.know he hl,(b8V _ _).trans (h.ni i hi).2,hpr,by rw [hk];simp,fun _ _ _ _ v=>v,fun _ _ _ _ v=>.inl v,fun _ _ _ p=>p,fun _ _ _ p=>.inl p,by rw [hacc];exact fun s v=>h.cur i s v hi,by rw [hacc];exact fun s b e=>h.max i s b e,?_,fun s f hs => ?_,fun m hm=>.inl hm⟩
 ·have hld:=h.ld i hi;refine ⟨?_,?_,?_,?_⟩
  ·intro h0;rw [hb,hbe];refine hld.bs ?_;intro q;apply h0;unfold D7;rw [show ((N i).d7==3)=false by simp [q]];exact q
  ·intro h1;have h1':(N i).d7=1:=by
    by_cases q:(N i).d7=3
    ·unfold D7 at h1;rw [show ((N i).d7==3)=true by simpa using q] at h1;cases h1
    ·unfold D7 at h1;rw [show ((N i).d7==3)=false by simpa using q] at h1;exact h1
   have hf:(D7 (N i) e).c8=(N i).c8:=by unfold D7;cases (N i).d7==3<;>rfl
   rw [hb,hf];exact ⟨(hld.l1 h1').1,fun q hq hf=>hcov q ((hld.l1 h1').2 q hq hf)⟩
  ·intro h2;rw [hb,hk,f5D,f6z];by_cases q:(N i).d7=3
   ·obtain ⟨x1,x2,x3,x4⟩:=hld.l3 q;exact ⟨fun s f p=>by have:=x2 s f p;omega,x3.imp fun q _=>hcov q⟩
   ·have h2':(N i).d7=2:=by
     unfold D7 at h2;rw [show ((N i).d7==3)=false by simpa using q] at h2;exact h2
    obtain ⟨x1,x2⟩:=hld.l2 h2';exact ⟨fun s f p=>by have:=x1 s f p;omega,x2.imp fun q _=>hcov q⟩
  ·intro h3;exfalso
   by_cases q:(N i).d7=3
   ·unfold D7 at h3;rw [show ((N i).d7==3)=true by simpa using q] at h3;cases h3
   ·unfold D7 at h3;rw [show ((N i).d7==3)=false by simpa using q] at h3;exact q h3
 ·rw [hk,f7x] at hs;split at hs
  ·exact h.kn i s f hi hs
  ·rename_i hge;rw [List.getElem?_singleton] at hs;split at hs
   ·injection hs with hs;subst hs;rw [show s=(N i).a5.length by omega];exact hc
   ·cases hs
end
section
variable {N:Int->j6} {V:VR} {P:PR} {M:MS} {i:Int}
theorem MV.other{m:l8}(h:m.a9=6\/m.a9=7\/m.a9=8):MV N V P m:=⟨fun k=>by omega,fun k=>by omega,fun k=>by omega,fun k=>by omega,fun k=>by omega⟩
theorem MV.c1{m:l8}(h:m.a9=1)(x:f5W m.a8 3=m.c8/\m.g7<=(N m.c8).a5.length):MV N V P m:=⟨fun _=>x,fun k=>by omega,fun k=>by omega,fun k=>by omega,fun k=>by omega⟩
theorem MV.c2{m:l8}(h:m.a9=2)(x:m.g7<=(N m.To).a5.length/\m.a8<=(N m.c8).Acc.i0/\(∀s b e,m.g7.toNat<=s->b<m.a8->V m.c8 s b e->∃v,m.a7[s-m.g7.toNat]?=some v/\b<=v.a8)/\∀k v,m.a7[k]?=some v->v.a8>0->v.a8<=m.a8/\V m.c8 (m.g7.toNat+k) v.a8 v.g9):MV N V P m:=⟨fun k=>by omega,fun _=>x,fun k=>by omega,fun k=>by omega,fun k=>by omega⟩
theorem MV.c3{m:l8}(h:m.a9=3)(x:P m.a8 m.g7.toNat m.g9):MV N V P m:=⟨fun k=>by omega,fun k=>by omega,fun _=>x,fun k=>by omega,fun k=>by omega⟩
theorem MV.c4{m:l8}(h:m.a9=4)(x:∃e,V m.c8 m.g7.toNat m.a8 e):MV N V P m:=⟨fun k=>by omega,fun k=>by omega,fun k=>by omega,fun _=>x,fun k=>by omega⟩
theorem MV.c5{m:l8}(h:m.a9=5)(x:a1O V m.g7.toNat m.g9):MV N V P m:=⟨fun k=>by omega,fun k=>by omega,fun k=>by omega,fun k=>by omega,fun _=>x⟩
def d64(P:PR)(b:Int)(k:Nat)(e:m4):PR:=fun c s f=>P c s f\/(c=b/\s=k/\f=e)
theorem c9u{id q:Int}(hid:D3 id)(hq:D3 q)(h:(a1g id)[q.toNat]?=some true):q=id:=by
 unfold D3 at hid hq;obtain rfl|rfl|rfl:id=0\/id=1\/id=2:=by omega
 all_goals obtain rfl|rfl|rfl:q=0\/q=1\/q=2:=by omega
 all_goals first|rfl|(exact absurd h (by decide))
theorem PX.put(h:PX N V P M)(hi:D3 i)(hph:(N i).d7=2){q:List m4}{e:m4}(hn:a2q (N i) e){a:z0}(hc:K5 (N i).Acc (N i).a8 ((N i).a5.length:Int) e=some a)(hni:NI {N i with d9:=q,Acc:=a,d7:=3,c9:=e,a7:=a1g (N i).Id}):PX (upd N i {N i with d9:=q,Acc:=a,d7:=3,c9:=e,a7:=a1g (N i).Id}) (a81 V i (N i).a5.length (N i).a8 e) (d64 P (N i).a8 (N i).a5.length e) M:=by
 obtain ⟨k,hk0,hk,h1,h2,h3,h4,he,c1,c2⟩:=d0C h hi hc;obtain rfl:k=(N i).a5.length:=by omega
 obtain ⟨l1,l2⟩:=(h.ld i hi).l2 hph;have hown:=(h.ni i hi).1.ld.own (by omega);have hid:=(h.ni i hi).2;have hbs:=(h.ld i hi).bs (by omega);generalize hn':({N i with d9:=q,Acc:=a,d7:=3,c9:=e,a7:=a1g (N i).Id}:j6)=n' at hni ⊢;have f1:n'.Acc=a:=by rw [<-hn']
 have f2:n'.a5=(N i).a5:=by rw [<-hn']
 have f3:n'.a8=(N i).a8:=by rw [<-hn']
 have f4:n'.i4=(N i).i4:=by rw [<-hn']
 have f5:n'.d7=3:=by rw [<-hn']
 have f6:n'.c9=e:=by rw [<-hn']
 have f7:n'.a7=a1g i:=by rw [<-hn'];exact congrArg a1g hid
 have f8:n'.Id=i:=by rw [<-hn'];exact hid
 have hpr:(N i).Acc.i0<=n'.Acc.i0:=by rw [f1,h4];exact h3
 have hcov:∀a,Cov N V (N i) a->Cov (upd N i n') (a81 V i (N i).a5.length (N i).a8 e) n' a:=fun a c=>by
  refine ⟨by rw [f3];exact f6q c.pr (a8B hpr a),?_⟩;rw [f2,f3,f4];exact fun s b f hs hb v=>c.cv s b f hs hb (c1a h3 c.pr hb v)
 have hsf:∀a,Cov N V (N i) a->Sf (upd N i n') (a81 V i (N i).a5.length (N i).a8 e) (N i).a8 (N i).a5.length e a:=fun a c=>by
  refine ⟨f6q c.pr (a8B hpr a),fun b' e' hb v => ?_⟩;have v:=c1a h3 c.pr hb v;obtain ⟨w,w1,w2⟩:=c.cv _ _ _ (f5K _) hb v;have hb1:=(h.vp _ _ _ _ v).2.2.1;have hw:w.a8>0:=by omega
  have hno:∀{p:Prop},(∀v∈(N i).i4.drop (N i).a5.length,¬v.a8>0)->p:=fun hn=>by
   refine absurd hw (hn w ?_);exact f5F (i:=0) (by rw [f6V];exact w1)
  cases hn with
  | best u hu hub =>
   rw [w1] at hu;injection hu with hu;subst hu;obtain ⟨y1,q1,y2⟩:=hbs _ _ w1 hw;exact ⟨w.a8,q1,w2,y1,.inl y2⟩
  | gap u hu hub hn=>exact absurd hw (hn w w1)
  | want hb hk hn=>exact hno hn
  | queue e he hk hn=>exact hno hn
 refine h.step hi ⟨hni,f8,hpr,by rw [f2];exact f5K _,fun _ _ _ _ v=>.inl v,fun q s c f v => ?_,fun _ _ _ p=>.inl p,fun b s f p => ?_,by rw [f1];exact c1,by rw [f1];exact c2,?_,by rw [f2];exact fun s e hk=>(h.kn i s e hi hk).mono fun _ _ _ _ v=>.inl v,fun m hm=>.inl hm⟩
 ·rcases v with v|⟨rfl,rfl,rfl,rfl⟩
  ·exact .inl v
  ·exact .inr ⟨rfl,h3,h1,by rw [f1,h4];exact f5R _,.inr ⟨rfl,rfl,rfl⟩⟩
 ·rcases p with p|⟨rfl,rfl,rfl⟩
  ·exact .inl p
  ·refine .inr ⟨f3.symm,f5,fun e' p' => ?_,l2.imp fun a _=>hsf a⟩;rcases p' with p'|⟨_,_,x⟩
   ·exact absurd (l1 _ _ p') (by omega)
   ·exact x
 ·refine ⟨fun _ => ?_,fun q=>by omega,fun q=>by omega,fun _ => ?_⟩
  ·rw [f3,f4];intro s v hs hv;obtain ⟨x1,q1,x2⟩:=hbs s v hs hv;exact ⟨x1,q1,.inl x2⟩
  ·rw [f2,f3,f6,f7];refine ⟨.inr ⟨rfl,rfl,rfl⟩,fun s f p => ?_,l2.imp fun a _=>hcov a,fun q hq hm => ?_⟩
   ·rcases p with p|⟨_,rfl,_⟩
    ·exact Nat.le_of_lt (l1 _ _ p)
    ·exact f5K _
   ·rw [c9u hi hq hm];exact .inr ⟨rfl,rfl,rfl,rfl⟩
theorem PX.queue(h:PX N V P M)(hi:D3 i){q:List m4}(hl:q.length<=4)(hm:∀e∈q,z5 e=true/\e.i7=false):PX (upd N i {N i with d9:=q}) V P M :=
 h.keep hi ((h.ni i hi).1.queue hl hm) (h.ni i hi).2 (f5R _) rfl rfl rfl rfl rfl rfl rfl rfl
theorem PX.propose(h:PX N V P M)(hi:D3 i):M1 N M i (M5 (N i)).1 (M5 (N i)).2:=by
 have hr:=b0G (h.ni i hi).1;unfold M5 at hr ⊢;cases hc:(N i).d7 != 2||decide (40<=(N i).a5.length)
 case true=>exact .same h
 rw [hc] at hr;simp only [cond_false] at hr ⊢;simp only [f6D,bne_eq_false_iff_eq,decide_eq_false_iff_not] at hc;obtain ⟨q,hq,hql,hqm,hqe⟩:=b0A (N i);cases hx:a0O (N i) with
 | mk x o =>
 rw [hx] at hr hq hqe;have hq:x={N i with d9:=q}:=hq;subst hq;have hQ:PX (upd N i {N i with d9:=q}) V P M:=h.queue hi (by have:=(h.ni i hi).1.ql;omega) fun e he=>(h.ni i hi).1.qs e (hqm e he)
 cases o with
 | none=>exact ⟨V,P,by rw [a8s];exact hQ⟩
 | some e =>
  simp only [a56] at hr ⊢;cases hcs:K5 (N i).Acc (N i).a8 ((N i).a5.length:Int) e with
  | none =>
   have:=hQ.down hi;rw [R6,a3z] at this;exact ⟨V,P,by rw [a8s];exact this⟩
  | some a =>
   rw [hcs] at hr;have hid:=(h.ni i hi).2;refine ⟨_,_,PX.send (h.put hi hc.1 (hqe e rfl) hcs hr.ni) fun m hm=>⟨hr.ms m hm,?_⟩⟩;obtain ⟨t,_,_,_,rfl⟩:=a3L (h.ni i hi).1.id hm;exact .c3 rfl (.inr ⟨rfl,rfl,rfl⟩)
theorem M1.then{n1 n2:j6}{l1 l2:List l8}(h1:M1 N M i n1 l1)(h2:∀V P,PX (upd N i n1) V P (snd M l1)->M1 (upd N i n1) (snd M l1) i n2 l2):M1 N M i n2 (l1++l2):=by
 obtain ⟨V1,P1,h1⟩:=h1;obtain ⟨V2,P2,h2⟩:=h2 V1 P1 h1;rw [a3z,c7Y] at h2;exact ⟨V2,P2,h2⟩
theorem PX.learn(h:PX N V P M)(hi:D3 i){e:m4}(he:z5 e=true)(hl:(N i).a5.length<40)(hc:a1O V (N i).a5.length e):M1 N M i (X8 (N i) e).1 (X8 (N i) e).2.1:=by
 have h1:=h.know hi he hl hc;have h2:=h1.free hi;rw [R6,a3z] at h2;have h3:=h2.propose hi;rw [R6] at h3;obtain ⟨V',P',h3⟩:=h3;rw [a3z] at h3;exact ⟨V',P',h3⟩
theorem PX.rise(h:PX N V P M)(hi:D3 i):M1 N M i (W9 (N i)).1 (W9 (N i)).2:=by
 have hni:=(h.ni i hi).1;have hid:=(h.ni i hi).2;have hr:=a96 hni;unfold W9 at hr ⊢;cases hd:decide (L4 (N i).Acc.i0 (N i).Id<0);case true=>exact .same h
 rw [hd] at hr;simp only [cond_false] at hr ⊢;simp only [decide_eq_false_iff_not] at hd;rcases b7G hni.pr hni.id with q|⟨q1,q2,q3,q4⟩
 ·omega
 generalize L4 (N i).Acc.i0 (N i).Id=b at *;have hld:∀(n':j6),n'.d7=1->n'.a8=b->n'.a5=(N i).a5->n'.i4=(N i).Acc.a7->n'.c8=a1g i->n'.Acc.i0=b->LD (upd N i n') V P n':=by
  intro n' e1 e2 e3 e4 e5 e6;refine ⟨fun _ => ?_,fun _=>⟨?_,?_⟩,fun q=>by omega,fun q=>by omega⟩
  ·rw [e2,e4];intro s v hs hv;have hv':=h.cur i s v hi hs hv;exact ⟨by have:=(h.vp _ _ _ _ hv').2.2.2;omega,i,hv'⟩
  ·rw [e2];intro s e p;have:=(h.po _ _ _ p).2;rw [q4,hid] at this;omega
  ·rw [e5];intro q hq hm;rw [c9u hi hq hm];refine ⟨by rw [e2,R6,e6];exact f5R _,?_⟩;rw [e4];exact fun s b e _ _ v=>h.max i s b e v
 refine ⟨V,P,PX.send (h.quiet hi hr.ni (hr.id.trans hid) (Int.le_of_lt q1) rfl rfl (hld _ rfl rfl rfl rfl (by rw [hid]) rfl)) fun m hm=>⟨hr.ms m hm,?_⟩⟩;obtain ⟨t,_,_,_,rfl⟩:=a3L hni.id hm;refine .c1 rfl ⟨q4,?_⟩;simp only [hid,R6];exact f5R _
theorem d1O{l:List Bool}(hl:l.length=3)(h:N5 l=true):Quo fun q=>l[q.toNat]?=some true:=by
 match l,hl with
 | [a,b,c],_ =>
  cases a<;>cases b<;>cases c<;>first|(exact absurd h (by decide))|exact ⟨0,1,by unfold D3;omega,by unfold D3;omega,by decide,rfl,rfl⟩|exact ⟨0,2,by unfold D3;omega,by unfold D3;omega,by decide,rfl,rfl⟩|exact ⟨1,2,by unfold D3;omega,by unfold D3;omega,by decide,rfl,rfl⟩
theorem d0X{l:List Bool}{f q:Int}(hf:D3 f)(hq:D3 q)(h:(l.set f.toNat true)[q.toNat]?=some true):q=f\/l[q.toNat]?=some true:=by
 unfold D3 at hf hq;rw [f6S] at h;split at h
 ·left;omega
 ·exact .inr h
end
section
variable {N:Int->j6} {V:VR} {P:PR} {M:MS} {i:Int} {m:l8}
theorem M1.reply(h:PX N V P M){r:l8}(h1:MI r)(h2:r.a9=6\/r.a9=7\/r.a9=8):M1 N M i (N i) [r] :=
 ⟨V,P,by rw [a8q];exact h.send fun x hx=>by rw [f5y.1 hx];exact ⟨h1,.other h2⟩⟩
theorem PX.tPrepare(h:PX N V P M)(hi:D3 i)(hm:M m)(hto:m.To=i)(hk:m.a9=1):M1 N M i (a1E (N i) m).1 (a1E (N i) m).2:=by
 obtain ⟨mi,mv⟩:=h.ms m hm;obtain ⟨hni,hid⟩:=h.ni i hi;have hr:=d0y hni mi hk;unfold a1E at hr ⊢;cases hp:H7 (N i).Acc m.a8 with
 | none =>
  rw [hp] at hr;exact .reply h (hr.ms _ (f5y.2 rfl)) (.inl rfl)
 | some x =>
  rw [hp] at hr;have h1:=(h.promise hi hp).yield hi m.a8;rw [R6,a3z] at h1;obtain ⟨rfl,b1,b2,b3⟩:=a4v hp;refine ⟨V,P,h1.send fun r hr'=>⟨hr.ms r hr',?_⟩⟩;rw [f5y.1 hr'];obtain ⟨s1,s2⟩:=mv.k1 hk;have hacc:(M8 {N i with Acc:=⟨m.a8,(N i).Acc.a7⟩} m.a8).Acc=⟨m.a8,(N i).Acc.a7⟩:=d6D _ _;have hne:m.c8≠i:=fun q=>mi.ne (by rw [q,hto])
  have hsl:=mi.sl;refine .c2 rfl ⟨?_,?_,?_,?_⟩
  ·show m.g7<=((upd N i _ m.c8).a5.length:Int)
   rw [b1f _ hne];exact s2
  ·show m.a8<=(upd N i _ m.To).Acc.i0
   rw [hto,R6,hacc];exact f5R _
  ·show ∀s b e,m.g7.toNat<=s->b<m.a8->V m.To s b e->∃v,((N i).Acc.a7.drop m.g7.toNat)[s-m.g7.toNat]?=some v/\b<=v.a8
   rw [hto];intro s b e hs _ v;obtain ⟨w,w1,w2⟩:=h.max _ _ _ _ v;exact ⟨w,by rw [f6V,show m.g7.toNat+(s-m.g7.toNat)=s by omega];exact w1,w2⟩
  ·show ∀k v,((N i).Acc.a7.drop m.g7.toNat)[k]?=some v->v.a8>0->v.a8<=m.a8/\V m.To (m.g7.toNat+k) v.a8 v.g9
   rw [hto];intro k v hk hv;rw [f6V] at hk;have hv':=h.cur i _ v hi hk hv;exact ⟨f6q (h.vp _ _ _ _ hv').2.2.2 b3,hv'⟩
theorem PX.tAccept(h:PX N V P M)(hi:D3 i)(hm:M m)(hto:m.To=i)(hk:m.a9=3):M1 N M i (a1S (N i) m).1 (a1S (N i) m).2:=by
 obtain ⟨mi,mv⟩:=h.ms m hm;obtain ⟨hni,hid⟩:=h.ni i hi;have hr:=c7Z hni mi hk;unfold a1S at hr ⊢;cases hp:K5 (N i).Acc m.a8 m.g7 m.g9 with
 | none =>
  rw [hp] at hr;exact .reply h (hr.ms _ (f5y.2 rfl)) (.inl rfl)
 | some x =>
  rw [hp] at hr;have h1:=(h.vote hi hp (mv.k3 hk)).yield hi m.a8;rw [R6,a3z] at h1;refine ⟨_,P,h1.send fun r hr'=>⟨hr.ms r hr',?_⟩⟩;rw [f5y.1 hr'];refine .c4 rfl ⟨m.g9,.inr ⟨hto,rfl,rfl,rfl⟩⟩
theorem c7M{a b:List m8}{s:Nat}{v:m8}(h:a[s]?=some v\/b[s]?=some v):∃w,(D6 a b)[s]?=some w/\v.a8<=w.a8:=by
 rw [a9R];cases ha:a[s]? with
 | none =>
  rw [ha] at h;rcases h with h|h
  ·cases h
  ·rw [h];exact ⟨v,rfl,f5R _⟩
 | some x =>
  cases hb:b[s]? with
  | none =>
   rw [ha,hb] at h;rcases h with h|h
   ·injection h with h;subst h;exact ⟨x,rfl,f5R _⟩
   ·cases h
  | some y =>
   rw [ha,hb] at h;simp only;cases hd:decide (y.a8>x.a8)
   ·refine ⟨x,rfl,?_⟩;simp only [decide_eq_false_iff_not] at hd;rcases h with h|h
    ·injection h with h;subst h;exact f5R _
    ·injection h with h;subst h;omega
   ·refine ⟨y,rfl,?_⟩;simp only [decide_eq_true_eq] at hd;rcases h with h|h
    ·injection h with h;subst h;omega
    ·injection h with h;subst h;exact f5R _
theorem e8j{a b:List m8}{s:Nat}{w:m8}(h:(D6 a b)[s]?=some w):a[s]?=some w\/b[s]?=some w:=by
 rw [a9R] at h;cases ha:a[s]? with
 | none =>
  rw [ha] at h;cases hb:b[s]? with
  | none=>rw [hb] at h;cases h
  | some y=>rw [hb] at h;exact .inr h
 | some x =>
  rw [ha] at h;cases hb:b[s]? with
  | none=>rw [hb] at h;exact .inl h
  | some y =>
   rw [hb] at h;simp only at h;cases hd:decide (y.a8>x.a8)
   ·rw [hd] at h;exact .inl h
   ·rw [hd] at h;exact .inr h
theorem e0D{vs:List m8}{k s:Nat}{v:m8}(h:(f5u k v0++vs)[s]?=some v)(hv:v.a8>0):k<=s/\vs[s-k]?=some v:=by
 rw [f7x] at h;split at h
 ·rw [List.getElem?_replicate] at h;split at h
  ·injection h with h;subst h;exact absurd hv (by decide)
  ·cases h
 ·rename_i hge;rw [f7w] at h hge;exact ⟨by omega,h⟩
theorem PX.tPromise(h:PX N V P M)(hi:D3 i)(hm:M m)(hto:m.To=i)(hk:m.a9=2):M1 N M i (a1V (N i) m).1 (a1V (N i) m).2:=by
 obtain ⟨mi,mv⟩:=h.ms m hm;obtain ⟨hni,hid⟩:=h.ni i hi;have hr:=c5M hni mi hk;have hsl:=mi.sl;have hfr:D3 m.c8:=mi.fr;obtain ⟨s1,s2,s3,s4⟩:=mv.k2 hk;rw [hto] at s1;unfold a1V at hr ⊢;cases hc:(N i).d7 != 1||m.a8 != (N i).a8
 case true=>exact .same h
 rw [hc] at hr;simp only [cond_false] at hr ⊢;simp only [f6D,bne_eq_false_iff_eq] at hc;obtain ⟨hp1,hbal⟩:=hc;have hld:=h.ld i hi;obtain ⟨l1,l2⟩:=hld.l1 hp1;have hfl:(N i).c8.length=3:=by
  rcases hni.ld with q|q|q|q
  ·omega
  ·exact q.2.2.1
  all_goals exact absurd q.1 (by omega)
 have hkl:m.g7.toNat<=(N i).a5.length:=by omega
 have hbs:∀s v,(D6 (N i).i4 (f5u m.g7.toNat v0++m.a7))[s]?=some v->v.a8>0->v.a8<(N i).a8/\∃q,V q s v.a8 v.g9:=by
  intro s v hs hv;rcases e8j hs with q|q
  ·exact hld.bs (by omega) s v q hv
  ·obtain ⟨g1,g2⟩:=e0D q hv;obtain ⟨g3,g4⟩:=s4 _ v g2 hv;rw [show m.g7.toNat+(s-m.g7.toNat)=s by omega] at g4;refine ⟨?_,_,g4⟩;have hpp:=(h.vp _ _ _ _ g4).2.1;rcases Int.lt_or_le v.a8 (N i).a8 with q|q
   ·exact q
   ·exact absurd (show P (N i).a8 s v.g9 by rw [show (N i).a8=v.a8 by omega];exact hpp) (l1 _ _)
 have hcov:∀(n':j6),n'.Acc=(N i).Acc->n'.a8=(N i).a8->n'.a5=(N i).a5->n'.i4=D6 (N i).i4 (f5u m.g7.toNat v0++m.a7)->∀q,D3 q->((N i).c8.set m.c8.toNat true)[q.toNat]?=some true->Cov (upd N i n') V n' q:=by
  intro n' e0 e1 e2 e3 q hq hf;have hpr:∀q,(N q).Acc.i0<=(upd N i n' q).Acc.i0:=a8B (by rw [e0];exact f5R _)
  rcases d0X hfr hq hf with rfl|hf
  ·refine ⟨by rw [e1,<-hbal];exact f6q s2 (hpr _),?_⟩;rw [e1,e2,e3];intro s b e hs hb v;obtain ⟨w,w1,w2⟩:=s3 s b e (by omega) (by rw [hbal];exact hb) v;have hw:(f5u m.g7.toNat v0++m.a7)[s]?=some w:=by
    rw [f5I (by rw [f7w];omega),f7w];exact w1
   obtain ⟨u,u1,u2⟩:=c7M (a:=(N i).i4) (.inr hw);exact ⟨u,u1,by omega⟩
  ·have c:=l2 q hq hf;refine ⟨by rw [e1];exact f6q c.pr (hpr _),?_⟩;rw [e1,e2,e3];intro s b e hs hb v;obtain ⟨w,w1,w2⟩:=c.cv s b e hs hb v;obtain ⟨u,u1,u2⟩:=c7M (b:=f5u m.g7.toNat v0++m.a7) (.inl w1);exact ⟨u,u1,by omega⟩
 cases htw:N5 ((N i).c8.set m.c8.toNat true)
 ·rw [htw] at hr;simp only [cond_false] at hr ⊢;refine ⟨V,P,by rw [a8s];exact h.quiet hi hr.ni hid (f5R _) rfl rfl ⟨fun _=>hbs,fun _=>⟨l1,fun q hq hf=>hcov _ (by rfl) (by rfl) (by rfl) (by rfl) q hq hf⟩,fun q=>absurd (hp1.symm.trans q) (by decide),fun q=>absurd (hp1.symm.trans q) (by decide)⟩⟩
 ·simp only [cond_true];have hq:=d1O (by rw [f6M];exact hfl) htw;have hown:=hni.ld.own (by omega);have hmv:m.a7.length<=40/\(∀v∈m.a7,VI v)/\m.g7+m.a7.length<=40:=by
   rcases mi.kd with q|q|q|q|q|q|q
   ·omega
   ·exact ⟨q.2.2.2.1.1,q.2.2.2.1.2,q.2.2.2.2⟩
   all_goals exact absurd q.1 (by omega)
  have hquiet:(N i).c9=zE/\(N i).a7=[]:=by
   rcases hni.ld with q|q|q|q
   ·omega
   ·exact ⟨q.2.2.2.2.1,q.2.2.2.2.2⟩
   all_goals exact absurd q.1 (by omega)
  have hni2:NI {N i with c8:=[],i4:=D6 (N i).i4 (f5u m.g7.toNat v0++m.a7),d7:=2}:=by
   refine ⟨hni.id,hni.pr,hni.vl,hni.vs,hni.kl,hni.ks,hni.sq,hni.ql,hni.qs,.inr (.inr (.inl ⟨rfl,⟨hown.b1,hown.b2,hown.mod,hown.pr,?_,?_⟩,rfl,hquiet.1,hquiet.2⟩)),hni.wt⟩
   ·have hbl:=hown.bl;show (D6 _ _).length<=40
    rw [a8V,f5D,f7w];omega
   ·intro v hv;rcases b0y hv with q|q
    ·exact hown.bs v q
    ·rcases List.mem_append.1 q with q|q
     ·rw [(f6m.1 q).2];exact .inl rfl
     ·exact hmv.2.1 v q
  have h2:PX (upd N i {N i with c8:=[],i4:=D6 (N i).i4 (f5u m.g7.toNat v0++m.a7),d7:=2}) V P M :=
   h.quiet hi hni2 hid (f5R _) rfl rfl ⟨fun _=>hbs,fun q=>absurd (show (2:Int)=1 from q) (by decide),fun _=>⟨fun s e p=>absurd p (l1 s e),hq.imp fun q hq hf=>hcov _ (by rfl) (by rfl) (by rfl) (by rfl) q hq hf⟩,fun q=>absurd (show (2:Int)=3 from q) (by decide)⟩
  have h3:=h2.propose hi;rw [R6] at h3;obtain ⟨V',P',h3⟩:=h3;rw [a3z] at h3;exact ⟨V',P',h3⟩
theorem PX.tAccepted(h:PX N V P M)(hi:D3 i)(hm:M m)(hto:m.To=i)(hk:m.a9=4):M1 N M i (a2M (N i) m).1 (a2M (N i) m).2.1:=by
 obtain ⟨mi,mv⟩:=h.ms m hm;obtain ⟨hni,hid⟩:=h.ni i hi;have hr:=c8N hni mi;have hfr:D3 m.c8:=mi.fr;obtain ⟨e',ve⟩:=mv.k4 hk;unfold a2M at hr ⊢;cases hc:(N i).d7 != 3||(m.a8 != (N i).a8||m.g7 != ((N i).a5.length:Int))
 case true=>exact .same h
 rw [hc] at hr;simp only [cond_false] at hr ⊢;simp only [f6D,bne_eq_false_iff_eq] at hc;obtain ⟨hp3,hbal,hsl⟩:=hc;rw [hsl,hbal,f5P] at ve;have hld:=h.ld i hi;obtain ⟨l1,l2,l3,l4⟩:=hld.l3 hp3;have he':e'=(N i).c9:=h.pu _ _ _ _ (h.vp _ _ _ _ ve).2.1 l1;subst he';have hlead:Own (N i)/\(N i).c8=[]/\z5 (N i).c9=true/\(N i).a7.length=3/\(N i).a7[(N i).Id.toNat]?=some true/\(N i).a5.length<40:=by
  rcases hni.ld with q|q|q|q
  ·omega
  ·omega
  ·omega
  ·exact q.2
 obtain ⟨o1,o2,o3,o4,o5,o6⟩:=hlead;have hmk:∀q,D3 q->((N i).a7.set m.c8.toNat true)[q.toNat]?=some true->V q (N i).a5.length (N i).a8 (N i).c9:=by
  intro q hq hf;rcases d0X hfr hq hf with rfl|hf
  ·exact ve
  ·exact l4 q hq hf
 have hni2:NI {N i with a7:=(N i).a7.set m.c8.toNat true} :=
  ⟨hni.id,hni.pr,hni.vl,hni.vs,hni.kl,hni.ks,hni.sq,hni.ql,hni.qs,.inr (.inr (.inr ⟨hp3,o1,o2,o3,by simpa using o4,by
   show ((N i).a7.set m.c8.toNat true)[(N i).Id.toNat]?=some true
   rw [f6S];split
   ·rename_i hq;have:=hni.id;rw [if_pos (by omega)]
   ·exact o5,o6⟩)),hni.wt⟩
 have h2:PX (upd N i {N i with a7:=(N i).a7.set m.c8.toNat true}) V P M:=by
  refine h.quiet hi hni2 hid (f5R _) rfl rfl ⟨fun h0=>hld.bs h0,fun q=>absurd (hp3.symm.trans q) (by decide),fun q=>absurd (hp3.symm.trans q) (by decide),fun _=>⟨l1,l2,l3.imp fun a _ c=>⟨f6q c.pr (a8B (n':={N i with a7:=(N i).a7.set m.c8.toNat true}) (f5R _) a),c.cv⟩,hmk⟩⟩
 cases htw:N5 ((N i).a7.set m.c8.toNat true)
 ·simp only [cond_false];exact ⟨V,P,by rw [a8s];exact h2⟩
 ·rw [htw] at hr;simp only [cond_true] at hr ⊢;have hq:=d1O (by rw [f6M];exact o4) htw;have hch:a1O V (N i).a5.length (N i).c9:=by
   obtain ⟨a,b,ha,hb,hab,x,y⟩:=hq;exact ⟨(N i).a8,a,b,ha,hb,hab,hmk a ha x,hmk b hb y⟩
  refine M1.then (n1:={N i with a7:=(N i).a7.set m.c8.toNat true}) ⟨V,P,h2.send fun x hx=>⟨hr.ms x (f6R _ hx),?_⟩⟩ fun V2 P2 hp => ?_
  ·obtain ⟨t,_,_,_,rfl⟩:=a3L hni.id hx;exact .c5 rfl hch
  ·have h3:PX (upd N i {N i with a7:=(N i).a7.set m.c8.toNat true}) V P (snd M (H4 (N i).Id ⟨5,0,0,0,((N i).a5.length:Int),(N i).c9,[]⟩)):=h2.send fun x hx=>⟨hr.ms x (f6R _ hx),by
    obtain ⟨t,_,_,_,rfl⟩:=a3L hni.id hx;exact .c5 rfl hch⟩
   have h4:=h3.learn hi (e:=(N i).c9) o3 (by rw [R6];exact o6) (by rw [R6];exact hch);rw [R6] at h4;exact h4
theorem PX.tChosen(h:PX N V P M)(hi:D3 i)(hm:M m)(hto:m.To=i)(hk:m.a9=5):M1 N M i (a2l (N i) m).1 (a2l (N i) m).2.1:=by
 obtain ⟨mi,mv⟩:=h.ms m hm;obtain ⟨hni,hid⟩:=h.ni i hi;have hr:=d21 hni mi hk;have hch:=mv.k5 hk;have hsl:=mi.sl;have hkd:m.g7<40/\z5 m.g9=true:=by
  rcases mi.kd with q|q|q|q|q|q|q
  ·omega
  ·omega
  ·omega
  ·exact ⟨q.2.2.1,q.2.2.2.1⟩
  all_goals exact absurd q.1 (by omega)
 unfold a2l at hr ⊢;cases h1:decide (m.g7<((N i).a5.length:Int));case true=>exact .same h
 rw [h1] at hr;cases h2:decide (m.g7>((N i).a5.length:Int))
 ·simp only [cond_false];simp only [decide_eq_false_iff_not] at h1 h2;refine h.learn hi hkd.2 (by omega) ?_;rw [show (N i).a5.length=m.g7.toNat by omega];exact hch
 ·rw [h2] at hr;simp only [cond_false,cond_true] at hr ⊢;exact .reply h (hr.ms _ (f5y.2 rfl)) (.inr (.inr rfl))
theorem PX.tAsk(h:PX N V P M)(hi:D3 i)(hm:M m)(hto:m.To=i)(hk:m.a9=7):M1 N M i (a0p (N i) m).1 (a0p (N i) m).2:=by
 obtain ⟨mi,mv⟩:=h.ms m hm;obtain ⟨hni,hid⟩:=h.ni i hi;obtain ⟨e1,e2⟩:z5 m.g9=true/\m.g9.i7=false:=by
  rcases mi.kd with q|q|q|q|q|q|q
  ·omega
  ·omega
  ·omega
  ·omega
  ·omega
  ·exact ⟨q.2.2.2.1,q.2.2.2.2.1⟩
  ·omega
 unfold a0p;cases hc:(N i).d7==0||(decide (4<=(N i).d9.length)||N4 (N i).a5 m.g9.a0)
 case true=>exact .same h
 simp only [cond_false];simp only [f6D,decide_eq_false_iff_not] at hc;have h1:=h.queue hi (q:=(N i).d9++[m.g9]) (by rw [f5D,f6z];omega) (by
  intro e he;rcases List.mem_append.1 he with q|q
  ·exact hni.qs e q
  ·rw [f5y.1 q];exact ⟨e1,e2⟩)
 have h2:=h1.propose hi;rw [R6] at h2;obtain ⟨V',P',h2⟩:=h2;rw [a3z] at h2;exact ⟨V',P',h2⟩
theorem PX.tNeed(h:PX N V P M)(hi:D3 i)(hm:M m):M1 N M i (N i) (a2N (N i) m):=by
 obtain ⟨mi,mv⟩:=h.ms m hm;obtain ⟨hni,hid⟩:=h.ni i hi;have hr:=d20 hni mi;refine ⟨V,P,?_⟩;rw [a8q];refine h.send fun x hx=>⟨hr x hx,?_⟩
 unfold a2N at hx;obtain ⟨l,hl,hx⟩:=f6s.1 hx;obtain ⟨j,hj,rfl⟩:=List.mem_map.1 hl;unfold a1e at hx;cases hk:(N i).a5[m.g7.toNat+j]? with
 | none=>rw [hk] at hx;cases hx
 | some e =>
  rw [hk] at hx;rw [f5y.1 hx];refine .c5 rfl ?_;exact h.kn i _ e hi hk
theorem PX.tRefuse(h:PX N V P M)(hi:D3 i)(b:Int):M1 N M i (M8 {N i with Acc:=(H7 (N i).Acc b).getD (N i).Acc} b) []:=by
 refine ⟨V,P,?_⟩;rw [a8s];cases hp:H7 (N i).Acc b with
 | none=>exact h.yield hi b
 | some x =>
  have h1:=(h.promise hi hp).yield hi b;rw [R6,a3z] at h1;exact h1
theorem PX.take(h:PX N V P M)(hi:D3 i)(hm:M m)(hto:m.To=i):M1 N M i (U1 (N i) m).1 (U1 (N i) m).2.1:=by
 unfold U1;by_cases k1:m.a9=1
 ·rw [show (m.a9==1)=true by simpa using k1];exact h.tPrepare hi hm hto k1
 rw [show (m.a9==1)=false by simpa using k1];by_cases k2:m.a9=2
 ·rw [show (m.a9==2)=true by simpa using k2];exact h.tPromise hi hm hto k2
 rw [show (m.a9==2)=false by simpa using k2];by_cases k3:m.a9=3
 ·rw [show (m.a9==3)=true by simpa using k3];exact h.tAccept hi hm hto k3
 rw [show (m.a9==3)=false by simpa using k3];by_cases k4:m.a9=4
 ·rw [show (m.a9==4)=true by simpa using k4];exact h.tAccepted hi hm hto k4
 rw [show (m.a9==4)=false by simpa using k4];by_cases k5:m.a9=5
 ·rw [show (m.a9==5)=true by simpa using k5];exact h.tChosen hi hm hto k5
 rw [show (m.a9==5)=false by simpa using k5];by_cases k6:m.a9=6
 ·rw [show (m.a9==6)=true by simpa using k6];exact h.tRefuse hi m.a8
 rw [show (m.a9==6)=false by simpa using k6];by_cases k7:m.a9=7
 ·rw [show (m.a9==7)=true by simpa using k7];exact h.tAsk hi hm hto k7
 rw [show (m.a9==7)=false by simpa using k7];cases m.a9==8
 ·exact .same h
 ·exact h.tNeed hi hm
end
section
variable {N:Int->j6} {V:VR} {P:PR} {M:MS} {i:Int}
theorem M1.to{n1 n2:j6}{l:List l8}(h1:PX (upd N i n1) V P M)(h2:M1 (upd N i n1) M i n2 l):M1 N M i n2 l:=by
 obtain ⟨V',P',h2⟩:=h2;rw [a3z] at h2;exact ⟨V',P',h2⟩
theorem PX.ask(h:PX N V P M)(hi:D3 i){p:List n8}(hp:s9 p):M1 N M i (I8 (N i) p).1 (I8 (N i) p).2:=by
 obtain ⟨hni,hid⟩:=h.ni i hi;have hr:=b1a hni hp;rw [a1Z] at hr ⊢;cases hc:K3 (N i) p;case false=>exact .same h
 rw [hc] at hr;have hn:=hni.asked hp hc;have h1:PX (upd N i (P7 (N i) p)) V P M:=h.keep hi hn hid (f5R _) rfl rfl rfl rfl rfl rfl rfl rfl;simp only [cond_true] at hr ⊢;cases h2:(N i).d7==2
 ·rw [h2] at hr;simp only [cond_false] at hr ⊢;refine .to h1 ⟨V,P,?_⟩;rw [a3z];refine h1.send fun x hx=>⟨hr.ms x hx,?_⟩
  cases h0:(N i).d7==0
  ·rw [h0] at hx;cases hx
  ·rw [h0] at hx;obtain ⟨t,_,_,_,rfl⟩:=a3L hni.id hx;exact .other (.inr (.inl rfl))
 ·simp only [cond_true];have h3:=h1.propose hi;rw [R6] at h3;exact .to h1 h3
theorem PX.retry(h:PX N V P M)(hi:D3 i):M1 N M i (Q8 (N i)).1 (Q8 (N i)).2:=by
 obtain ⟨hni,hid⟩:=h.ni i hi;have hr:=a9O hni;have hneed:∀x∈H4 (N i).Id ⟨8,0,0,0,((N i).a5.length:Int),zE,[]⟩,MV N V P x:=fun x hx=>by
  obtain ⟨t,_,_,_,rfl⟩:=a3L hni.id hx;exact .other (.inr (.inr rfl))
 have go:∀{l:List l8},(∀x∈H4 (N i).Id ⟨8,0,0,0,((N i).a5.length:Int),zE,[]⟩++l,MI x)->(∀x∈l,MV N V P x)->M1 N M i (N i) (H4 (N i).Id ⟨8,0,0,0,((N i).a5.length:Int),zE,[]⟩++l):=fun {l} hm hv =>
  ⟨V,P,by rw [a8q];exact h.send fun x hx=>⟨hm x hx,(List.mem_append.1 hx).elim (hneed x) (hv x)⟩⟩
 unfold Q8 at hr ⊢;by_cases h1:(N i).d7=1
 ·rw [show ((N i).d7==1)=true by simpa using h1] at hr ⊢;refine go hr.ms fun x hx => ?_
  obtain ⟨t,_,_,_,rfl⟩:=a3L hni.id hx;exact .c1 rfl ⟨(hni.ld.own (by omega)).mod,by show _<=((N (N i).Id).a5.length:Int);rw [hid];exact f5R _⟩
 rw [show ((N i).d7==1)=false by simpa using h1] at hr ⊢;by_cases h2:(N i).d7=2
 ·rw [show ((N i).d7==2)=true by simpa using h2] at hr ⊢;simp only [cond_true,cond_false] at hr ⊢;have hs:PX N V P (snd M (H4 (N i).Id ⟨8,0,0,0,((N i).a5.length:Int),zE,[]⟩)):=h.send fun x hx=>⟨hr.ms x (f6R _ hx),hneed x hx⟩
  obtain ⟨V',P',h3⟩:=hs.propose hi;rw [c7Y] at h3;exact ⟨V',P',h3⟩
 rw [show ((N i).d7==2)=false by simpa using h2] at hr ⊢;by_cases h3:(N i).d7=3
 ·rw [show ((N i).d7==3)=true by simpa using h3] at hr ⊢;refine go hr.ms fun x hx => ?_
  obtain ⟨t,_,_,_,rfl⟩:=a3L hni.id hx;exact .c3 rfl ((h.ld i hi).l3 h3).1
 rw [show ((N i).d7==3)=false by simpa using h3] at hr ⊢;cases hb:(N i).i8
 ·rw [hb] at hr;refine ⟨V,P,?_⟩;show PX (upd N i (N i)) V P _
  rw [a8q];exact h.send fun x hx=>⟨hr.ms x hx,hneed x hx⟩
 ·rw [hb] at hr;refine go hr.ms fun x hx => ?_
  obtain ⟨t,_,_,_,rfl⟩:=a3L hni.id hx;exact .other (.inr (.inl rfl))
theorem PX.fall(h:PX N V P M)(hi:D3 i):M1 N M i (a1s (N i)) [] :=
 ⟨V,P,by rw [a8s];exact h.quiet hi (h.ni i hi).1.fall (h.ni i hi).2 (f5R _) rfl rfl (.none rfl)⟩
end
def u5(w:m5)(j:Int):j6:=if 0<=j/\j<=2 then G8 w j else C5 0
def PW(w:m5):Prop := ∃V P M,PX (u5 w) V P M/\∀m∈w.d6,M m
theorem a13{w:m5}{j:Int}(h:D3 j):u5 w j=G8 w j:=if_pos h
theorem f1C{w w':m5}(h:w'.a6=w.a6):u5 w'=u5 w:=by
 funext j;unfold u5 G8;rw [h]
theorem d69{w:m5}(h:WI w){i:Nat}(hi:i<3)(n:j6){w':m5}(hw:w'.a6=w.a6.set i n):u5 w'=upd (u5 w) (i:Int) n:=by
 have hl:=h.nl;funext j
 unfold u5 upd G8;rw [hw];show _=if j=(i:Int) then n else if 0<=j/\j<=2 then w.a6.getD j.toNat (C5 0) else C5 0
 by_cases hj:0<=j/\j<=2
 ·rw [if_pos hj,if_pos hj];by_cases q:j=(i:Int)
  ·subst q;rw [if_pos rfl,f5P,f5G,f6v (by omega)];rfl
  ·rw [if_neg q,f5G,f5N (by omega),<-f5G]
 ·rw [if_neg hj,if_neg hj,if_neg (by omega)]
theorem PW.put{w w':m5}(h:WI w){i:Nat}(hi:i<3){n':j6}{l:List l8}{V:VR}{P:PR}{M:MS}(hM:∀m∈w.d6,M m)(hg:M1 (u5 w) M (i:Int) n' l)(hn:w'.a6=w.a6.set i n')(hm:∀m∈w'.d6,m∈w.d6\/m∈l):PW w':=by
 obtain ⟨V',P',h'⟩:=hg;refine ⟨V',P',_,by rw [d69 h hi n' hn];exact h',fun m hm' => ?_⟩;exact (hm m hm').imp (hM m) id
theorem PW.less{w w':m5}(h:PW w)(hn:w'.a6=w.a6)(hm:∀m∈w'.d6,m∈w.d6):PW w':=by
 obtain ⟨V,P,M,h1,h2⟩:=h;exact ⟨V,P,M,by rw [f1C hn];exact h1,fun m q=>h2 m (hm m q)⟩
theorem a2w{w:m5}{l:List l8}{m:l8}(h:m∈(a0x w l).d6):m∈w.d6\/m∈l :=
 (List.mem_append.1 h).imp id f6k
theorem b9t{w:m5}{i:Int}{m:l8}(h:m∈(a2p w i).d6):m∈w.d6 :=
 (List.mem_append.1 h).elim f6k f6p
theorem e6B{w:m5}(h:WI w)(hp:PW w){e:r9}(he:Q7 e):PW (D9 w e):=by
 obtain ⟨V,P,M,h1,hM⟩:=hp;have hp:PW w:=⟨V,P,M,h1,hM⟩
 unfold D9;cases hk:e.a9==2||(e.a9==3||e.a9==4)
 ·simp only [cond_false];cases hA:p9 e.A 0 2
  ·exact hp
  simp only [f5x,cond_false];rw [J0] at hA;obtain ⟨i,hi⟩:∃i:Nat,e.A=(i:Int):=⟨e.A.toNat,by omega⟩
  have hi3:i<3:=by omega
  have hD:D3 (i:Int):=by unfold D3;omega
  rw [hi];have hN:u5 w (i:Int)=G8 w (i:Int):=a13 hD;cases e.a9==1
  ·cases e.a9==5
   ·cases e.a9==6
    ·cases e.a9==7
     ·exact hp
     ·have hg:=h1.fall hD;rw [hN] at hg;exact PW.put (V:=V) (P:=P) h hi3 hM hg rfl fun m hm=>.inl hm
    ·have hg:=h1.retry hD;rw [hN] at hg;exact PW.put (V:=V) (P:=P) h hi3 hM hg rfl fun m hm=>a2w (w:=M6 w _ _) hm
   ·have hg:=h1.rise hD;rw [hN] at hg;exact PW.put (V:=V) (P:=P) h hi3 hM hg rfl fun m hm=>a2w (w:=M6 w _ _) hm
  ·simp only [cond_true];unfold a28;cases decide (60<=w.d8.length)
   ·have hg:=h1.ask hD (A4.fits he (by decide));rw [hN] at hg;simp only [cond_false];cases decide ((I8 (G8 w (i:Int)) e.i6).1.Seq>(G8 w (i:Int)).Seq)
    ·exact PW.put (V:=V) (P:=P) h hi3 hM hg rfl fun m hm=>a2w (w:=M6 w _ _) hm
    ·exact PW.put (V:=V) (P:=P) h hi3 hM hg rfl fun m hm=>a2w (w:=M6 {w with d8:=w.d8++[_]} _ _) hm
   ·exact hp
 ·simp only [cond_true];unfold a06;cases hA:decide (0<=e.A)
  ·exact hp
  simp only [cond_true];cases hm:w.d6[e.A.toNat]? with
  | none=>exact hp
  | some m =>
   have hmem:=f5F hm;simp only;cases e.a9==4
   ·cases e.a9==3
    ·simp only [cond_false];have hmi:=(h1.ms m (hM m hmem)).1;have hto:=hmi.to;obtain ⟨t,htt⟩:∃t:Nat,m.To=(t:Int):=⟨m.To.toNat,by omega⟩
     have hD:D3 (t:Int):=by unfold D3;omega
     have hN:u5 w (t:Int)=G8 w (t:Int):=a13 hD;have hg:=h1.take hD (hM m hmem) htt;rw [hN] at hg;rw [htt];exact PW.put (V:=V) (P:=P) h (show t<3 by omega) hM hg rfl fun x hx=>(a2w (w:=M6 (a2p w e.A) _ _) hx).imp (fun q=>b9t q) id
    ·exact hp.less rfl fun x hx=>b9t hx
   ·exact hp.less rfl fun x hx=>(a2w hx).elim id fun q=>by rw [f5y.1 q];exact hmem
theorem e43:PW O1:=by
 have hn:∀j,D3 j->u5 O1 j=C5 j:=fun j hj=>by
  rw [a13 hj];unfold D3 at hj;obtain rfl|rfl|rfl:j=0\/j=1\/j=2:=by omega
  all_goals rfl
 refine ⟨fun _ _ _ _=>False,fun _ _ _=>False,fun _=>False,⟨fun i hi => ?_,fun _ _ _ _ v=>v.elim,fun i s v hi hs _ => ?_,fun _ _ _ _ v=>v.elim,fun _ _ _ _ p=>p.elim,fun _ _ _ p=>p.elim,fun _ _ _ p=>p.elim,fun i hi => ?_,fun i s e hi hk => ?_,fun _ hm=>hm.elim⟩,fun m hm=>by cases hm⟩
 ·rw [hn i hi];exact ⟨NI.open hi,rfl⟩
 ·rw [hn i hi] at hs;simp [C5] at hs
 ·rw [hn i hi];exact .none rfl
 ·rw [hn i hi] at hk;simp [C5] at hk
structure ND(L:m4->Prop)(n:j6):Prop where
 kn:∀e∈n.a5,L e
 av:∀v∈n.Acc.a7,v.a8>0->L v.g9
 bv:∀v∈n.i4,v.a8>0->L v.g9
 cu:n.d7=3->L n.c9
 wt:n.i8=true->L n.b7
 qu:∀e∈n.d9,L e
structure ML(L:m4->Prop)(m:l8):Prop where
 en:m.a9=3\/m.a9=5\/m.a9=7->L m.g9
 vs:∀v∈m.a7,v.a8>0->L v.g9
def TO(n x:j6)(ts:List m9):Prop:=ts=[]\/(n.i8=true/\x.i8=false/\∃k,x.a5.findIdx? (F5 n.b7.a0)=some k/\ts=[⟨n.Id,n.b7.a0,Q0 x.a5 k,bif Q0 x.a5 k==0 then T8 x.a5 n.b7.a0 else 0⟩])
structure Act(L:m4->Prop)(n x:j6)(l:List l8)(ts:List m9):Prop where
 id:x.Id=n.Id
 sq:x.Seq=n.Seq
 kn:∃t,x.a5=n.a5++t
 bw:(x.i8=n.i8/\x.b7=n.b7)\/x.i8=false
 nd:ND L x
 ml:∀m∈l,ML L m
 to:TO n x ts
end
end Go.Proofs.YthbeecjnggpjnaaGreat
