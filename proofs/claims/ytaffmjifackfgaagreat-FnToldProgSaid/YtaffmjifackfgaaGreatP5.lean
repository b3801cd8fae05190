/- Abstract values and states of the program, functions of the program and what their calls come to, and what follows from it: part 5 of the text that the law leans on; long names are written short. -/
import Derived.Test.YtaffmjifackfgaaGreatP4
set_option linter.unusedVariables false
set_option linter.unusedSimpArgs false
set_option linter.unnecessarySimpa false
namespace Go.Proofs.YtaffmjifackfgaaGreat
open Go
open Option renaming bind_some → e9J, map_some → f0J, getD_some → f0R, map_eq_some_iff → f0X
open List renaming getElem?_eq_getElem → e9K, replicate → e9L, getElem_mem → e9M, getElem?_eq_some_iff → e9P, mem_singleton → e9Q, mem_cons → e9R, nodup_append → e9S, length_append → e9T, range → e9U, eq_nil_of_length_eq_zero → e9V, mem_of_getElem? → e9W, getD_eq_getElem?_getD → e9X, append_assoc → e9Y, getElem?_append_right → e9Z, getElem?_set_ne → e90, drop_eq_nil_of_le → e91, getElem?_append_left → e94, length_take → e96, drop_eq_getElem_cons → e97, flatten_cons → f0a, getElem?_eq_none → f0c, map_cons → f0e, take_length → f0f, take_of_length_le → f0g, take_append_of_le_length → f0h, take_succ_eq_append_getElem → f0j, mem_of_mem_take → f0l, append_nil → f0m, mem_replicate → f0n, pairwise_iff_getElem → f0o, take_zero → f0p, nil_append → f0r, take_append_drop → f0s, mem_flatten → f0t, mem_of_mem_drop → f0u, length_cons → f0w, getElem_of_mem → f0x, length_singleton → f0y, getElem?_map → f0z, any_eq_false → f0A, getElem?_cons_zero → f0B, length_map → f0D, getElem?_set_self → f0F, mem_range → f0H, getElem?_cons_succ → f0I, drop_zero → f0N, length_set → f0O, nodup_cons → f0P, findIdx?_eq_some_iff_getElem → f0Q, pairwise_cons → f0T, mem_take_iff_getElem → f0U, map_append → f0V, getElem?_drop → f0Y, getElem?_take → f0Z, length_nil → f01, getElem?_set → f02, sublist_append_right → f04, getElem?_of_mem → f05, pairwise_append → f06, mem_append_left → f07, Perm → f09, drop_drop → f1a, any_eq_true → f1b, take_succ_cons → f1d, replicate_succ → f1e, foldl_cons → f1f, drop_append_of_le_length → f1g, size_toArray → f1h, all_eq_false → f1i, toArray → f1j, map_map → f1k, Sublist → f1l, set_getElem_self → f1n, length_replicate → f1o, getElem?_append → f1p, cons_append → f1q, mem_cons_of_mem → f1s, flatten_append → f1t, mem_of_find?_eq_some → f1u, foldl_nil → f1w
open Bool renaming and_eq_true → e9N, not_true → e9O, true_and → e93, not_false → e98, false_or → f0i, or_eq_false_iff → f0E, not_eq_true' → f0G, false_eq_true → f0L, and_true → f0M, true_or → f1c, and_assoc → f1m
open Int renaming toNat_natCast → e92, tmod → e99, le_refl → f0b, le_trans → f0q, tdiv → f1r
open Nat renaming mul_le_mul_right → e95, le_refl → f0d, eq_of_beq_eq_true → f0k, zero_add → f0v, succ_mul → f0C, lt_of_lt_of_le → f0S, le_mul_of_pos_right → f0W, add_zero → f00, le_succ_of_le → f03, zero_le → f08, sub_zero → f1v
open Option.some renaming inj → f0K
noncomputable section
theorem e2A{a b:List m7}(ha:z7 96 R2 a)(hb:z7 96 R2 b)(hla:a.length<=80)(hlb:b.length<=80)(hz:∀v∈b,v.a7<=0->v=v0):b56 a b=some (C8 a b):=by
 have hlen:=a7o a b;unfold b56;rw [a5L (body:=fun s:(List m7)×Int=>a5h a b s.1 s.2) (C8 a b) (by unfold t8;omega) (fun l=>l) (by
  intro k hk;have hget:=b0c a b k;rw [e9K hk] at hget;have hent:∀v,v∈a\/v∈b->E3 v.i0:=fun v hv=>hv.elim (fun q=>(ha.2 v q).2) (fun q=>(hb.2 v q).2)
  have hj1:∀v:m7,E3 v.i0->b5j ((C8 a b).take k) (k:Int) v=some (.nxt ((C8 a b).take k++[v],m8 ((k:Int)+1))):=by
   intro v hv;unfold b5j;rw [a0g hv,e9J,t9 (by rw [e96];omega)]
  show a5h a b ((C8 a b).take k) (k:Int)=_
  have hkk:k<a.length\/k<b.length:=by omega
  have hstart:a5h a b ((C8 a b).take k) (k:Int)=b8D a b ((C8 a b).take k) (k:Int):=by
   unfold a5h;by_cases h1:k<a.length
   ·rw [x8 _ k h1];rfl
   ·rw [show decide ((k:Int)<(a.length:Int))=false by simp;omega,x8 _ k (by omega)];rfl
  rw [hstart];unfold b8D;by_cases h1:k<a.length
  ·rw [x8 _ k h1,u0 h1];simp only [cond_true,e9J,l9.go];unfold b73;rw [e9K h1] at hget;by_cases h2:k<b.length
   ·rw [x8 _ k h2,u0 h2];rw [e9K h2] at hget;simp only [cond_true,e9J];injection hget with hget;rw [hget];cases decide (b[k].a7>a[k].a7)
    ·simp only [cond_false,e9J,l9.go];exact hj1 _ (hent _ (.inl (e9M h1)))
    ·simp only [cond_true,e9J,l9.go];exact hj1 _ (hent _ (.inr (e9M h2)))
   ·rw [show decide ((k:Int)<(b.length:Int))=false by simp;omega];rw [f0c (by omega)] at hget;injection hget with hget;rw [hget];simp only [cond_false,e9J,l9.go];exact hj1 _ (hent _ (.inl (e9M h1)))
  ·have h2:k<b.length:=by omega
   rw [show decide ((k:Int)<(a.length:Int))=false by simp;omega];simp only [cond_false,e9J,l9.go];unfold b73;rw [x8 _ k h2,u0 h2];rw [f0c (by omega),e9K h2] at hget;injection hget with hget;rw [hget];simp only [cond_true,e9J];by_cases h3:b[k].a7>0
   ·rw [show decide (b[k].a7>0)=true by simpa using h3];simp only [cond_true,e9J,l9.go];exact hj1 _ (hent _ (.inr (e9M h2)))
   ·have hv:=hz _ (e9M h2) (by omega);rw [show decide (b[k].a7>0)=false by simpa using h3];simp only [cond_false,e9J,l9.go];rw [hv];exact hj1 v0 a0N) (by
  show a5h a b (C8 a b) ((C8 a b).length:Int)=_
  unfold a5h;rw [show decide (((C8 a b).length:Int)<(a.length:Int))=false by simp;omega,show decide (((C8 a b).length:Int)<(b.length:Int))=false by simp;omega];rfl)]
 rfl
theorem d62{b who:Int}(hb:0<=b/\b<=3000)(hw:0<=who/\who<=2):b3F b who=some (L6 b who):=by
 have e:∀i:Int,1<=i->i<=3->a3s b who (b+i)=some (bif decide (b+i<=3000) then (bif e99 (b+i) 3==who then .ret (b+i) else .nxt (b+(i+1))) else .brk ()):=by
  intro i h1 h3;unfold a3s;rw [B9 (by omega) (by omega),show decide (b+i<=b+3)=true by simp;omega,cond_true,B9 (by omega) (by omega),Int.add_assoc];cases decide (b+i<=3000)
  ·rfl
  ·cases e99 (b+i) 3==who<;>rfl
 have e4:a3s b who (b+4)=some (.brk ()):=by
  unfold a3s;rw [B9 (by omega) (by omega),show decide (b+4<=b+3)=false by simp];rfl
 have e1:=e 1 (by omega) (by omega);have e2:=e 2 (by omega) (by omega);have e3:=e 3 (by omega) (by omega);unfold b3F L6;rw [show decide (b<0)=false by simp;omega,show decide (b>3000)=false by simp;omega,show decide (who<0)=false by simp;omega,show decide (who>=3)=false by simp;omega,B9 (by omega) (by omega)];simp only [cond_false];have hb4:p8 (fun s:Int=>a3s b who s) (b+4)=some (.brk ()):=C6 e4;have h3:p8 (fun s:Int=>a3s b who s) (b+3)=some (bif decide (b+3<=3000)&&(e99 (b+3) 3==who) then .ret (b+3) else .brk ()):=by
  cases q:decide (b+3<=3000)
  ·rw [q] at e3;exact C6 e3
  ·rw [q] at e3;cases t:e99 (b+3) 3==who
   ·rw [t] at e3;rw [E1 e3];exact hb4
   ·rw [t] at e3;exact Z4 e3
 have h2:p8 (fun s:Int=>a3s b who s) (b+2)=some (bif decide (b+2<=3000)&&(e99 (b+2) 3==who) then .ret (b+2) else bif decide (b+3<=3000)&&(e99 (b+3) 3==who) then .ret (b+3) else .brk ()):=by
  cases q:decide (b+2<=3000)
  ·rw [q] at e2;rw [show decide (b+3<=3000)=false by simp at q ⊢;omega];exact C6 e2
  ·rw [q] at e2;cases t:e99 (b+2) 3==who
   ·rw [t] at e2;rw [E1 e2];exact h3
   ·rw [t] at e2;exact Z4 e2
 have h1:p8 (fun s:Int=>a3s b who s) (b+1)=some (bif decide (b+1<=3000)&&(e99 (b+1) 3==who) then .ret (b+1) else bif decide (b+2<=3000)&&(e99 (b+2) 3==who) then .ret (b+2) else bif decide (b+3<=3000)&&(e99 (b+3) 3==who) then .ret (b+3) else .brk ()):=by
  cases q:decide (b+1<=3000)
  ·rw [q] at e1;rw [show decide (b+2<=3000)=false by simp at q ⊢;omega,show decide (b+3<=3000)=false by simp at q ⊢;omega];exact C6 e1
  ·rw [q] at e1;cases t:e99 (b+1) 3==who
   ·rw [t] at e1;rw [E1 e1];exact h2
   ·rw [t] at e1;exact Z4 e1
 rw [h1];cases decide (b+1<=3000)&&(e99 (b+1) 3==who)<;>cases decide (b+2<=3000)&&(e99 (b+2) 3==who)<;>cases decide (b+3<=3000)&&(e99 (b+3) 3==who)<;>rfl
theorem z8{n:Int}(h:-1000000000<=n/\n<=1000000000):H7 n:=⟨by omega,by omega⟩
theorem Z3{α:Type}{b:Nat}{ok:α->Prop}{l:List α}(hl:l.length*b<=1000000000)(h:∀x∈l,ok x):z7 b ok l:=⟨by omega,h⟩
theorem e5A{α:Type}{b:Nat}{ok:α->Prop}{l l':List α}(h:z7 b ok l)(hl:l'.length<=l.length)(hs:∀x∈l',x∈l):z7 b ok l' :=
 ⟨Nat.le_trans (e95 _ hl) h.1,fun x hx=>h.2 x (hs x hx)⟩
theorem c2l{l:List m4}{q:q8}:M2 l q=(l.findIdx? (H1 q)).isSome:=by
 unfold M2;cases h:l.findIdx? (H1 q) with
 | none =>
  rw [List.findIdx?_eq_none_iff] at h;rw [Option.isSome_none,f0A];intro x hx;rw [h x hx];simp
 | some k =>
  rw [f0Q] at h;obtain ⟨hk,h1,_⟩:=h;rw [Option.isSome_some];exact f1b.2 ⟨l[k],e9M hk,h1⟩
theorem e3d{n:j6}(h:z7 88 E3 n.a0)(hok:G5 n.a0=true):b5B n=some (S9 n):=by
 obtain ⟨hl,he⟩:=a34 hok;have hf:t8 n.a0:=h.fits (by decide);unfold b5B S9;rw [b5A hf,e9J,c2l];cases n.i7
 ·rfl
 simp only [e9O,cond_false,cond_true];cases hfi:n.a0.findIdx? (H1 n.b7.a5) with
 | none=>rfl
 | some kk =>
 simp only [Option.isSome_some,e9O,cond_false,d2X,e9J];have:=b8w (body:=fun s:(List q9)×Int×Int×List r9=>b0k n s.1 s.2.1 s.2.2.1 s.2.2.2) (fun k=>((z4 (n.a0.take k)).1.i4,(k:Int),(z4 (n.a0.take k)).1.At,(z4 (n.a0.take k)).1.i9)) n.a0 (H1 n.b7.a5) (fun k=>(a6d n,[⟨n.Id,n.b7.a5,T2 n.a0 k,bif T2 n.a0 k==0 then (match n.a0[k]? with|some e=>e.b8.f0|none=>0) else 0⟩])) () (by
   intro k hk;obtain ⟨h1,h2,h3⟩:=a3w hl he k (by omega);unfold b0k c1M H1 T2;rw [x8 _ k hk,u0 hk,d0N hl he hk,a6T hk,<-F3 hf hk,e9K hk];simp only [cond_true,e9J];rw [show (⟨(z4 (n.a0.take k)).1.At,(z4 (n.a0.take k)).1.i4,(z4 (n.a0.take k)).1.i9⟩:v6)=(z4 (n.a0.take k)).1 from rfl,c97 h1 (by omega) (List.all_eq_true.1 he _ (e9M hk)) (h.2 _ (e9M hk)).f,e9J];cases n.a0[k].i8<;>cases (([n.a0[k].a5.d8,n.a0[k].a5.Seq]:List Int)==[n.b7.a5.d8,n.b7.a5.Seq])<;>first|rfl|skip
   simp only [cond_false,e9O,e98,e93,cond_true,f0R];cases ((apply (z4 (n.a0.take k)).1 n.a0[k]).2==0)<;>rfl) (by
   unfold b0k;rw [A4];rfl)
 rw [f0p,hfi] at this;rw [show p8 (fun s:(List q9)×Int×Int×List r9=>b0k n s.1 s.2.1 s.2.2.1 s.2.2.2) (U3.i4,0,U3.At,U3.i9)=_ from this];simp only [e9J,l9.go,a1i,hfi];all_goals rfl
theorem d8Q{l:List m7}(hf:t8 l)(k:Nat):b49 l (k:Int)=some ((l.drop k).any fun v=>decide (v.a7>0)):=by
 have key:∀(m k:Nat),l.length-k=m->p8 (fun s:Int=>a76 l s) (k:Int)=some (bif (l.drop k).any (fun v=>decide (v.a7>0)) then .ret true else .brk ()):=by
  intro m;induction m with
  | zero =>
   intro k hk;rw [e91 (by omega)];refine C6 ?_;unfold a76;rw [show decide ((k:Int)<(l.length:Int))=false by simp;omega];rfl
  | succ m ih =>
   intro k hk;have hlt:k<l.length:=by omega
   rw [e97 hlt,List.any_cons];cases hd:decide (l[k].a7>0)
   ·rw [E1 (body:=fun s:Int=>a76 l s) (t:=((k+1:Nat):Int)) (by
     unfold a76;rw [x8 _ k hlt,u0 hlt,cond_true,e9J,hd,F3 hf hlt];rfl),ih (k+1) (by omega),f0i]
   ·refine Z4 ?_;unfold a76;rw [x8 _ k hlt,u0 hlt,cond_true,e9J,hd];rfl
 unfold b49;rw [key _ k rfl];cases (l.drop k).any fun v=>decide (v.a7>0)<;>rfl
theorem d1H(n:j6)(hk:t8 n.a0):∀(q:List m4),z7 88 E3 q->p8 (fun s:List m4=>a9w n s) q=some (match R4 n.a0 q with
  | (q',some e)=>.ret ({n with d9:=q'},e,true)
  | (q',none)=>.brk q')
 | [],h=>C6 rfl
 | e::q,h=>by
  have hb:=h.1;rw [f0w,f0C] at hb;have h':z7 88 E3 q:=⟨by omega,fun x hx=>h.2 x (f1s _ hx)⟩
  have ht:(([]:List m4)++((e::q).drop (0+(1:Int).toNat)).take ((e::q).length-(1:Int).toNat))=q:=by
   simp
  have hs:a9w n (e::q)=some (bif M2 n.a0 e.a5 then .nxt q else .ret ({n with d9:=q},e,true)):=by
   unfold a9w;rw [show decide (((e::q).length:Int)>0)=true by simp,cond_true,show idx (e::q) 0=some e from rfl,e9J,t9 (by simp;omega),t9 (by simp;omega),ht,b5A (n:={n with d9:=q}) hk,e9J];cases M2 n.a0 e.a5<;>rfl
  unfold R4;cases hd:M2 n.a0 e.a5
  ·rw [hd] at hs;exact Z4 hs
  ·rw [hd] at hs;rw [E1 (body:=fun s:List m4=>a9w n s) hs];exact d1H n hk q h'
def b4o(x:j6×Option m4):j6×m4×Bool:=match x with
 | (n,some e)=>(n,e,true)
 | (n,none)=>(n,zE,false)
theorem e2M{n:j6}(h:Q1 n):b5V n=some (b4o (a0j n)):=by
 obtain ⟨h1,h2,h3,h4,h5,h6,h7,h8,h9,h10,h11,h12,h13⟩:=h;have hk:t8 n.a0:=h3.fits (by decide);have j1:b7o n=some (b4o ({n with d9:=(R4 n.a0 n.d9).1},(R4 n.a0 n.d9).2)):=by
  unfold b7o;rw [d1H n hk _ h13];obtain ⟨q,o⟩:=R4 n.a0 n.d9;cases o<;>rfl
 have j2:b8i n=some (b4o (a4m n)):=by
  unfold b8i a4m;rw [d8Q (h8.fits (by decide)),e9J,b5A hk,a0g h12];generalize (({n with d9:=(R4 n.a0 n.d9).1},(R4 n.a0 n.d9).2):j6×Option m4)=X at j1 ⊢;cases (n.g9.drop n.a0.length).any fun v=>decide (v.a7>0)
  ·simp only [cond_false];cases n.i7
   ·exact j1
   ·cases M2 n.a0 n.b7.a5
    ·rfl
    ·exact j1
  ·rfl
 unfold b5V a0j;by_cases hl:n.a0.length<n.g9.length
 ·rw [x8 _ _ hl,u0 hl,e9K hl];simp only [cond_true,e9J];cases decide (n.g9[n.a0.length].a7>0)
  ·exact j2
  ·simp only [cond_true,a0g (h8.2 _ (e9M hl)).2,e9J,l9.go];rfl
 ·rw [show decide ((n.a0.length:Int)<(n.g9.length:Int))=false by simp;omega,f0c (by omega)];exact j2
theorem c3W(known:List m4):∀(q:List m4),(R4 known q).1.length<=q.length/\(∀x∈(R4 known q).1,x∈q)/\∀e,(R4 known q).2=some e->e∈q/\M2 known e.a5=false/\(R4 known q).1.length<q.length
 | []=>⟨f0d _,fun x hx=>hx,fun e he=>by cases he⟩
 | e::q=>by
  unfold R4;cases hk:M2 known e.a5
  ·refine ⟨by simp,fun x hx=>by simpa using .inr hx,fun e' he => ?_⟩;injection he with he;subst he;exact ⟨by simp,hk,by simp⟩
  ·obtain ⟨a,b,c⟩:=c3W known q;refine ⟨by simp only [cond_true,f0w];omega,fun x hx=>f1s _ (b x hx),fun e' he => ?_⟩;obtain ⟨x,y,z⟩:=c e' he;exact ⟨f1s _ x,y,by simp only [cond_true,f0w];omega⟩
inductive a1U (n:j6):m4->Prop
 | best (v) (h:n.g9[n.a0.length]?=some v) (hb:v.a7>0):a1U n v.i0
 | gap (v) (h:v∈n.g9.drop n.a0.length) (hb:v.a7>0) (hn:∀v,n.g9[n.a0.length]?=some v->¬v.a7>0):a1U n eN
 | want (h:n.i7=true) (hk:M2 n.a0 n.b7.a5=false) (hn:∀v∈n.g9.drop n.a0.length,¬v.a7>0):a1U n n.b7
 | queue (e) (h:e∈n.d9) (hk:M2 n.a0 e.a5=false) (hn:∀v∈n.g9.drop n.a0.length,¬v.a7>0):a1U n e
theorem b0e(n:j6):∃q:List m4,(a0j n).1={n with d9:=q}/\q.length<=n.d9.length/\(∀x∈q,x∈n.d9)/\∀e,(a0j n).2=some e->a1U n e:=by
 have rest:(∀v,n.g9[n.a0.length]?=some v->¬v.a7>0)->∃q:List m4,(a4m n).1={n with d9:=q}/\q.length<=n.d9.length/\(∀x∈q,x∈n.d9)/\∀e,(a4m n).2=some e->a1U n e:=by
  intro hn;unfold a4m;cases ha:(n.g9.drop n.a0.length).any fun v=>decide (v.a7>0)
  ·have hnv:∀v∈n.g9.drop n.a0.length,¬v.a7>0:=fun v hv=>by simpa using f0A.1 ha v hv
   cases hb:n.i7 && !M2 n.a0 n.b7.a5
   ·obtain ⟨a,b,c⟩:=c3W n.a0 n.d9;exact ⟨_,rfl,a,b,fun e he=>.queue e (c e he).1 (c e he).2.1 hnv⟩
   ·simp only [e9N,f0G] at hb;refine ⟨n.d9,rfl,f0d _,fun _ h=>h,fun e he => ?_⟩;injection he with he;subst he;exact .want hb.1 hb.2 hnv
  ·obtain ⟨v,hv,hb⟩:=f1b.1 ha;refine ⟨n.d9,rfl,f0d _,fun _ h=>h,fun e he => ?_⟩;injection he with he;subst he;exact .gap v hv (by simpa using hb) hn
 unfold a0j;cases hg:n.g9[n.a0.length]? with
 | none=>exact rest (by rw [hg];simp)
 | some v =>
  simp only;cases hb:decide (v.a7>0)
  ·exact rest (by rw [hg];intro w hw;injection hw with hw;subst hw;simpa using hb)
  ·refine ⟨n.d9,rfl,f0d _,fun _ h=>h,fun e he => ?_⟩;injection he with he;subst he;exact .best v hg (by simpa using hb)
theorem a1U.ok{n:j6}(h:Q1 n){e:m4}(hn:a1U n e):E3 e:=by
 cases hn with
 | best v hv hb=>exact (h.2.2.2.2.2.2.2.1.2 v (e9W hv)).2
 | gap=>exact c9d
 | want=>exact h.2.2.2.2.2.2.2.2.2.2.2.1
 | queue e hq=>exact h.2.2.2.2.2.2.2.2.2.2.2.2.2 e hq
theorem a78{k b s:Int}{e:m4}{vs:List m7}(hk:H7 k)(hb:H7 b)(hs:H7 s)(he:E3 e)(hv:z7 96 R2 vs):a0b ⟨k,0,0,b,s,e,vs⟩:=⟨hk,Z0,Z0,hb,hs,he,hv⟩
theorem c1Y{id:Int}(h:0<=id/\id<=2):∃y,idx (e9L (3:Int).toNat false) id=some y:=by
 obtain rfl|rfl|rfl:id=0\/id=1\/id=2:=by omega
 all_goals exact ⟨false,rfl⟩
theorem b2U{n:j6}(h:Q1 n)(hid:0<=n.Id/\n.Id<=2):a5U n=some (L2 n):=by
 unfold a5U L2;rw [show decide ((n.a0.length:Int)>=40)=decide (40<=n.a0.length) by simp;omega];cases n.d6 != 2
 ·simp only [cond_false,f0i];cases hlt:decide (40<=n.a0.length)
  ·simp only [cond_false,e2M h,e9J];obtain ⟨q,hq,hql,hqm,hqe⟩:=b0e n;cases hx:a0j n with
   | mk x o =>
   rw [hx] at hq hqe;have hq:x={n with d9:=q}:=hq;cases o with
   | none=>rfl
   | some e =>
    have he:=(hqe e rfl).ok h;have hlen:n.a0.length<40:=by simpa using hlt
    subst hq;simp only [b4o,e9O,cond_false,d1d he,c7J he,a5u];cases J3 n.Acc n.a7 (n.a0.length:Int) e with
    | none=>rfl
    | some a =>
     obtain ⟨y,hy⟩:=c1Y hid;simp only [a4e,e9J,e9O,cond_false,a0g he,hy];rw [t9 (by omega),a6D hid (a78 (z8 (by omega)) h.2.2.2.2.2.1 (z8 (by omega)) he R9)];rfl
  ·rfl
 ·rfl
theorem e7j{n:j6}(h:Q1 n):Q1 (a6d n):=by
 obtain ⟨h1,h2,h3,h4,h5,h6,h7,h8,h9,h10,h11,h12,h13⟩:=h;exact ⟨h1,h2,h3,h4,h5,h6,h7,h8,h9,h10,R9,a0N,h13⟩
theorem e6Y{n:j6}(h:Q1 n){e:m4}(he:E3 e)(hl:n.a0.length<=40):Q1 (D1 n e):=by
 obtain ⟨h1,h2,h3,h4,h5,h6,h7,h8,h9,h10,h11,h12,h13⟩:=h;have hk:z7 88 E3 (n.a0++[e]):=Z3 (by simp;omega) (by
  intro x hx;rcases List.mem_append.1 hx with q|q
  ·exact h3.2 x q
  ·rw [e9Q.1 q];exact he)
 unfold D1;cases n.d6==3
 ·exact ⟨h1,h2,hk,h4,h5,h6,h7,h8,h9,h10,h11,h12,h13⟩
 ·exact ⟨h1,h2,hk,h4,z8 (n:=2) (by omega),h6,h7,h8,a0N,R9,h11,h12,h13⟩
theorem a9P(n:j6):(S9 n=(n,[]))\/∃k,n.i7=true/\n.a0.findIdx? (H1 n.b7.a5)=some k/\S9 n=(a6d n,[⟨n.Id,n.b7.a5,T2 n.a0 k,bif T2 n.a0 k==0 then a1i n.a0 n.b7.a5 else 0⟩]):=by
 unfold S9;cases n.i7
 ·exact .inl rfl
 ·cases h:n.a0.findIdx? (H1 n.b7.a5) with
  | none=>exact .inl rfl
  | some k=>exact .inr ⟨k,rfl,rfl,rfl⟩
theorem e5P{n:j6}(h:Q1 n):Q1 (S9 n).1:=by
 rcases a9P n with q|⟨k,_,_,q⟩<;>rw [q]
 ·exact h
 ·exact e7j h
theorem d0W(n:j6):(S9 n).1.Id=n.Id:=by
 rcases a9P n with q|⟨k,_,_,q⟩<;>rw [q];rfl
theorem b5w(n:j6)(e:m4):(D1 n e).Id=n.Id:=by
 unfold D1;cases n.d6==3<;>rfl
theorem b8N(n:j6)(e:m4):(D1 n e).a0=n.a0++[e]:=by
 unfold D1;cases n.d6==3<;>rfl
theorem c4y{n:j6}(h:Q1 n)(hid:0<=n.Id/\n.Id<=2)(hk:G5 n.a0=true)(hl:n.a0.length<40){e:m4}(he:E3 e)(hok:z3 e=true):b0E n e=some (U8 n e):=by
 have hkn:=e6Y h he (by omega);have hko:G5 (D1 n e).a0=true:=by
  rw [b8N];obtain ⟨a,b⟩:=a34 hk;unfold G5;simp only [e9T,f0y,List.all_append,List.all_cons,List.all_nil,b,hok,f0M,Bool.and_self,decide_eq_true_eq];omega
 have hj:∀(p:Int) (c:m4) (vs:List Bool),(⟨n.Id,n.Acc,n.a0++[e],n.Seq,p,n.a7,n.c8,n.g9,c,vs,n.i7,n.i5,n.b7,n.d9⟩:j6)=D1 n e->b4P n e vs c.a5.d8 c.a5.Seq c.b8.b5 c.b8.b6 c.b8.f0 c.b8.Code p c.i8=some (U8 n e):=by
  intro p c vs hq;unfold b4P;rw [show (j6.mk n.Id n.Acc (n.a0++[e]) n.Seq p n.a7 n.c8 n.g9 (m4.mk c.i8 (q8.mk c.a5.d8 c.a5.Seq) (n5.mk c.b8.b5 c.b8.b6 c.b8.f0 c.b8.Code)) vs n.i7 n.i5 n.b7 n.d9)=D1 n e from hq,e3d hkn.2.2.1 hko,e9J,b2U (e5P hkn) (by rw [d0W,b5w];exact hid),e9J];rfl
 unfold b0E;rw [a0g he,e9J,t9 (by omega)];cases hp:n.d6==3
 ·exact hj n.d6 n.c9 n.a6 (by unfold D1;rw [hp];rfl)
 ·exact hj 2 zE [] (by unfold D1;rw [hp];rfl)
theorem d6A{r:n5}(h:S4 r=true):r.b5.length<=4:=by
 have h0:a67 r.b5=true:=by
  rw [b3y] at h;simp only [e9N] at h;exact h.2.2.2.2.1
 obtain ⟨h1,h2⟩:=c5t.1 h0;let ps:List n9:=r.b5.map fun x=>⟨x.i6,0⟩
 have hp:∀p∈ps,a2m p:=by
  intro p hp;obtain ⟨x,hx,rfl⟩:=List.mem_map.1 hp;exact ⟨(h1 x hx).1,(h1 x hx).2.1,by simp,by simp⟩
 have hpw:ps.Pairwise fun p q=>p.i6≠q.i6:=List.pairwise_map.2 h2
 have hl:=b9C hp;have a:=a5g hpw 0;have b:=a5g hpw 1;have c:=a5g hpw 2;have d:=a5g hpw 3;have:ps.length=r.b5.length:=f0D ..;omega
theorem d9o{r:n5}(h:a0p r ⟨[],[],0,0⟩=true):r=⟨[],[],0,0⟩:=(b30 _ _).1 h
theorem e2h{e:m4}(h:z3 e=true)(hn:e.i8=true):e=eN:=by
 unfold z3 at h;rw [hn] at h;simp only [cond_true,e9N,beq_iff_eq,List.cons.injEq,and_true] at h;obtain ⟨⟨h1,h2⟩,h3⟩:=h;have h4:=d9o h3;clear h3;obtain ⟨n,⟨a,b⟩,r⟩:=e;simp only at hn h1 h2 h4;subst hn h1 h2 h4;rfl
theorem e50{r:n5}(h:S4 r=true):b43 r:=by
 obtain ⟨h1,h2,_,h4,h5⟩:=a6F h;have r4:=d6A h;have p4:=e2q h;exact ⟨Z3 (by omega) fun x hx=>by have:=h4 x hx;exact ⟨z8 (by omega),z8 (by omega)⟩,
  Z3 (by omega) fun x hx=>by have:=h5 x hx;exact ⟨z8 (by omega),z8 (by omega)⟩,z8 (by omega),z8 (by omega)⟩
theorem a2N{e:m4}(h:z3 e=true):E3 e:=by
 cases hn:e.i8 with
 | true=>rw [e2h h hn];exact c9d
 | false =>
  obtain ⟨h1,h2,h3,_⟩:=a8L h hn;exact ⟨⟨z8 (by omega),z8 (by omega)⟩,e50 h3⟩
theorem c7k{l:List m4}(hl:l.length<=1000)(h:∀e∈l,z3 e=true):z7 88 E3 l:=Z3 (by omega) fun e he=>a2N (h e he)
def VI(v:m7):Prop:=v=v0\/(1<=v.a7/\v.a7<=3000/\z3 v.i0=true)
theorem d8W{v:m7}:Y8 v=true↔VI v:=by
 unfold Y8 VI;by_cases hb:v.a7=0
 ·simp only [hb,beq_self_eq_true,cond_true,a33];constructor
  ·intro h;left;obtain ⟨b,e⟩:=v;simp only at hb h;subst hb h;rfl
  ·rintro (h|h)
   ·rw [h];rfl
   ·omega
 ·have:(v.a7==0)=false:=by simpa using hb
  simp only [this,cond_false,e9N,I4];constructor
  ·intro h;exact .inr ⟨h.1.1,h.1.2,h.2⟩
  ·rintro (h|h)
   ·rw [h] at hb;exact absurd rfl hb
   ·exact ⟨⟨h.1,h.2.1⟩,h.2.2⟩
theorem VI.ok{v:m7}(h:VI v):R2 v:=by
 rcases h with rfl|⟨h1,h2,h3⟩
 ·exact c8D
 ·exact ⟨z8 (by omega),a2N h3⟩
theorem VI.bal{v:m7}(h:VI v):0<=v.a7/\v.a7<=3000:=by
 rcases h with rfl|⟨h1,h2,h3⟩
 ·exact ⟨by decide,by decide⟩
 ·exact ⟨by omega,h2⟩
theorem VI.zero{v:m7}(h:VI v)(hb:v.a7<=0):v=v0:=by
 rcases h with rfl|⟨h1,_⟩
 ·rfl
 ·omega
theorem VI.pos{v:m7}(h:VI v)(hb:v.a7>0):z3 v.i0=true:=by
 rcases h with rfl|⟨_,_,h⟩
 ·exact absurd hb (by decide)
 ·exact h
theorem a3V{l:List m7}(hl:l.length<=1000)(h:∀v∈l,VI v):z7 96 R2 l:=Z3 (by omega) fun v hv=>(h v hv).ok
theorem a7v{l:List m7}:K2 l=true↔l.length<=40/\∀v∈l,VI v:=by
 unfold K2;simp only [e9N,decide_eq_true_eq,List.all_eq_true,d8W]
structure e4T(id bal pr:Int)(best:List m7):Prop where
 b1:1<=bal
 b2:bal<=3000
 mod:e99 bal 3=id
 pr:bal<=pr
 bl:best.length<=40
 bs:∀v∈best,VI v
abbrev Own(n:j6):Prop:=e4T n.Id n.a7 n.Acc.g8 n.g9
def a0e(n:j6):Prop :=
 (n.d6=0/\n.a7=0/\n.c8=[]/\n.g9=[]/\n.c9=zE/\n.a6=[])\/
 (n.d6=1/\Own n/\n.c8.length=3/\n.c8[n.Id.toNat]?=some true/\n.c9=zE/\n.a6=[])\/
 (n.d6=2/\Own n/\n.c8=[]/\n.c9=zE/\n.a6=[])\/
 (n.d6=3/\Own n/\n.c8=[]/\z3 n.c9=true/\n.a6.length=3/\n.a6[n.Id.toNat]?=some true/\n.a0.length<40)
def b9S(n:j6):Prop :=
 (n.i7=true/\D5 n.i5=true/\z3 n.b7=true/\n.b7.i8=false/\n.b7.a5=⟨n.Id,n.Seq⟩)\/(n.i7=false/\n.i5=[]/\n.b7=zE)
structure NI(n:j6):Prop where
 id:0<=n.Id/\n.Id<=2
 pr:0<=n.Acc.g8/\n.Acc.g8<=3000
 vl:n.Acc.a6.length<=40
 vs:∀v∈n.Acc.a6,VI v/\v.a7<=n.Acc.g8
 kl:n.a0.length<=40
 ks:∀e∈n.a0,z3 e=true
 sq:0<=n.Seq/\n.Seq<=1000
 ql:n.d9.length<=4
 qs:∀e∈n.d9,z3 e=true/\e.i8=false
 ld:a0e n
 wt:b9S n
theorem b3e{α:Type}{l:List α}:((l.length:Int)==0)=true↔l=[]:=by
 rw [beq_iff_eq];constructor
 ·intro h;exact e9V (by omega)
 ·rintro rfl;rfl
theorem d8Y{α:Type}{l:List α}:((l.length:Int)=0)↔l=[]:=by rw [<-b3e,beq_iff_eq]
theorem d1R{l:List Bool}{id:Int}(h:0<=id/\id<=2):a4v l id=true↔l.length=3/\l[id.toNat]?=some true:=by
 unfold a4v b8t;have e:idx l id=l[id.toNat]?:=by unfold idx;rw [if_pos h.1]
 rw [e,e9N,beq_iff_eq];constructor
 ·rintro ⟨h1,h2⟩
  refine ⟨by omega,?_⟩;cases hq:l[id.toNat]? with
  | none=>rw [hq] at h2;cases h2
  | some b=>rw [hq] at h2;simp at h2;rw [h2]
 ·rintro ⟨h1,h2⟩
  exact ⟨by omega,by rw [h2];rfl⟩
theorem b9H{n:j6}:a28 n=true↔n.c9=zE/\n.a6=[]:=by
 unfold a28;rw [e9N,a33,b3e]
theorem c4K{n:j6}(hid:0<=n.Id/\n.Id<=2):a0Z n=true↔a0e n:=by
 have hown:(Y0 n.a7==n.Id)=true/\n.a7<=n.Acc.g8/\K2 n.g9=true↔Own n:=by
  rw [a7v];constructor
  ·rintro ⟨h1,h2,h3⟩
   have hb:=I4.1 (c5A (I4.2 hid) h1);unfold Y0 at h1;rw [I4.2 hb] at h1;exact ⟨hb.1,hb.2,by simpa using h1,h2,h3.1,h3.2⟩
  ·intro h;refine ⟨?_,h.pr,h.bl,h.bs⟩;unfold Y0;rw [I4.2 ⟨h.b1,h.b2⟩];simpa using h.mod
 unfold a0Z a0e;by_cases p0:n.d6=0
 ·simp only [p0,beq_self_eq_true,cond_true,e9N,b9H,beq_iff_eq,d8Y];constructor
  ·rintro ⟨a,b,c,d,e⟩;exact .inl ⟨trivial,a,b,c,d,e⟩
  ·rintro (h|h|h|h)
   ·exact ⟨h.2.1,h.2.2.1,h.2.2.2.1,h.2.2.2.2.1,h.2.2.2.2.2⟩
   all_goals exact absurd h.1 (by omega)
 ·have q0:(n.d6==0)=false:=by simpa using p0
  simp only [q0,cond_false,e9N,decide_eq_true_eq];rw [<-and_assoc,<-and_assoc,and_assoc (a:=(Y0 n.a7==n.Id)=true),hown];by_cases p1:n.d6=1
  ·simp only [p1,beq_self_eq_true,cond_true,e9N,d1R hid,b9H];constructor
   ·rintro ⟨a,⟨b,c⟩,d,e⟩;exact .inr (.inl ⟨trivial,a,b,c,d,e⟩)
   ·rintro (h|h|h|h)
    ·exact absurd h.1 (by omega)
    ·exact ⟨h.2.1,⟨h.2.2.1,h.2.2.2.1⟩,h.2.2.2.2.1,h.2.2.2.2.2⟩
    all_goals exact absurd h.1 (by omega)
  ·have q1:(n.d6==1)=false:=by simpa using p1
   by_cases p2:n.d6=2
   ·have q2:(n.d6==2)=true:=by simpa using p2
    simp only [q1,q2,cond_true,cond_false,e9N,b3e,b9H];constructor
    ·rintro ⟨a,b,c,d⟩;exact .inr (.inr (.inl ⟨p2,a,b,c,d⟩))
    ·rintro (h|h|h|h)
     ·exact absurd h.1 (by omega)
     ·exact absurd h.1 (by omega)
     ·exact ⟨h.2.1,h.2.2.1,h.2.2.2.1,h.2.2.2.2⟩
     ·exact absurd h.1 (by omega)
   ·have q2:(n.d6==2)=false:=by simpa using p2
    by_cases p3:n.d6=3
    ·have q3:(n.d6==3)=true:=by simpa using p3
     simp only [q1,q2,q3,cond_true,cond_false,e9N,b3e,d1R hid,decide_eq_true_eq];constructor
     ·rintro ⟨a,b,c,⟨d,e⟩,f⟩;exact .inr (.inr (.inr ⟨p3,a,b,c,d,e,by omega⟩))
     ·rintro (h|h|h|h)
      ·exact absurd h.1 (by omega)
      ·exact absurd h.1 (by omega)
      ·exact absurd h.1 (by omega)
      ·exact ⟨h.2.1,h.2.2.1,h.2.2.2.1,⟨h.2.2.2.2.1,h.2.2.2.2.2.1⟩,by omega⟩
    ·have q3:(n.d6==3)=false:=by simpa using p3
     simp only [q1,q2,q3,cond_false,f0L,and_false,false_iff];rintro (h|h|h|h)<;>omega
theorem b6P{a b:q8}:(([a.d8,a.Seq]:List Int)==[b.d8,b.Seq])=true↔a=b:=by
 obtain ⟨a1,a2⟩:=a;obtain ⟨b1,b2⟩:=b;simp
theorem d3s{n:j6}:a3a n=true↔b9S n:=by
 unfold a3a b9S;cases n.i7
 ·simp only [cond_false,e9N,b3e,a33,f0L,false_and,false_or,true_and]
 ·simp only [cond_true,e9N,f0G,Bool.true_eq_false,false_and,or_false,true_and];rw [show (([n.b7.a5.d8,n.b7.a5.Seq]:List Int)==[n.Id,n.Seq])=true↔n.b7.a5=⟨n.Id,n.Seq⟩ from b6P (b:=⟨n.Id,n.Seq⟩)]
theorem a0Q{n:j6}:C7 n=true↔NI n:=by
 unfold C7 O0 G5 b5F;simp only [e9N,I4,a7v,List.all_eq_true,decide_eq_true_eq,f0G,decide_eq_false_iff_not];constructor
 ·rintro ⟨h1,⟨h2,h3,h4⟩,⟨h5,h6⟩,h7,h8,h9,h10,h11⟩
  exact ⟨h1,h2,h3.1,fun v hv=>⟨h3.2 v hv,by have:=h4 v hv;omega⟩,h5,h6,h7,by omega,h11,(c4K h1).1 h9,d3s.1 h10⟩
 ·intro h;exact ⟨h.id,⟨h.pr,⟨h.vl,fun v hv=>(h.vs v hv).1⟩,fun v hv=>by have:=(h.vs v hv).2;omega⟩,⟨h.kl,h.ks⟩,h.sq,by have:=h.ql;omega,(c4K h.id).2 h.ld,d3s.2 h.wt,h.qs⟩
theorem e7s{i:o9}(h:P4 i=true):b1B i:=by
 unfold P4 at h;by_cases k1:i.a8=1
 ·simp [k1,o7] at h;exact ⟨z8 (by omega),z8 (by omega),z8 (by omega),z8 (by omega)⟩
 by_cases k2:i.a8=2
 ·simp [k2,o7] at h;exact ⟨z8 (by omega),z8 (by omega),z8 (by omega),z8 (by omega)⟩
 by_cases k3:i.a8=3
 ·simp [k3,o7] at h;exact ⟨z8 (by omega),z8 (by omega),z8 (by omega),z8 (by omega)⟩
 by_cases k4:i.a8=4
 ·simp [k4,o7] at h;exact ⟨z8 (by omega),z8 (by omega),z8 (by omega),z8 (by omega)⟩
 by_cases k5:i.a8=5
 ·simp [k5,o7] at h;exact ⟨z8 (by omega),z8 (by omega),z8 (by omega),z8 (by omega)⟩
 by_cases k6:i.a8=6
 ·simp [k6,o7] at h;exact ⟨z8 (by omega),z8 (by omega),z8 (by omega),z8 (by omega)⟩
 by_cases k7:i.a8=7
 ·simp [k7] at h;exact ⟨z8 (by omega),z8 (by omega),z8 (by omega),z8 (by omega)⟩
 ·simp [k1,k2,k3,k4,k5,k6,k7] at h
theorem d20{l:List o9}(h:D5 l=true):z7 32 b1B l:=by
 obtain ⟨h1,h2⟩:=c2V h;exact Z3 (by omega) fun i hi=>e7s (h2 i hi)
theorem a0e.phase{n:j6}(h:a0e n):0<=n.d6/\n.d6<=3:=by
 rcases h with h|h|h|h<;>omega
theorem a0e.bal{n:j6}(h:a0e n):0<=n.a7/\n.a7<=3000:=by
 rcases h with h|h|h|h
 ·omega
 all_goals exact ⟨by have:=h.2.1.b1;omega,h.2.1.b2⟩
theorem a0e.best{n:j6}(h:a0e n):n.g9.length<=40/\∀v∈n.g9,VI v:=by
 rcases h with h|h|h|h
 ·rw [h.2.2.2.1];exact ⟨by simp,by simp⟩
 all_goals exact ⟨h.2.1.bl,h.2.1.bs⟩
theorem a0e.from3{n:j6}(h:a0e n):n.c8.length<=3/\n.a6.length<=3/\E3 n.c9:=by
 rcases h with h|h|h|h
 ·rw [h.2.2.1,h.2.2.2.2.2,h.2.2.2.2.1];exact ⟨by simp,by simp,a0N⟩
 ·rw [h.2.2.2.2.2,h.2.2.2.2.1];exact ⟨by omega,by simp,a0N⟩
 ·rw [h.2.2.1,h.2.2.2.1,h.2.2.2.2];exact ⟨by simp,by simp,a0N⟩
 ·rw [h.2.2.1];exact ⟨by simp,by omega,a2N h.2.2.2.1⟩
theorem NI.ok{n:j6}(h:NI n):Q1 n:=by
 have hf:=h.ld.from3;have hb:=h.ld.best;have hw:E3 n.b7/\z7 32 b1B n.i5:=by
  rcases h.wt with q|q
  ·exact ⟨a2N q.2.2.1,d20 q.2.1⟩
  ·rw [q.2.1,q.2.2];exact ⟨a0N,R9⟩
 have hph:=h.ld.phase;have hbl:=h.ld.bal;have h1:=h.id;have h2:=h.pr;have h3:=h.sq;have h4:=h.vl;have h5:=h.kl;have h6:=h.ql;exact ⟨z8 (by omega),⟨z8 (by omega),a3V (by omega) fun v hv=>(h.vs v hv).1⟩,c7k (by omega) h.ks,z8 (by omega),z8 (by omega),z8 (by omega),
  Z3 (by omega) (fun _ _=>trivial),a3V (by omega) hb.2,hf.2.2,Z3 (by omega) (fun _ _=>trivial),hw.2,hw.1,c7k (by omega) fun e he=>(h.qs e he).1⟩
theorem NI.list{n:j6}(h:NI n):G5 n.a0=true:=by
 unfold G5;simp only [e9N,decide_eq_true_eq,List.all_eq_true];exact ⟨h.kl,h.ks⟩
def R8(m:j8):Prop :=
 ((m.a8=1\/m.a8=4)/\(1<=m.a7/\m.a7<=3000)/\m.i0=zE/\m.a6=[])\/
 (m.a8=2/\(1<=m.a7/\m.a7<=3000)/\m.i0=zE/\(m.a6.length<=40/\∀v∈m.a6,VI v)/\m.g7+m.a6.length<=40)\/
 (m.a8=3/\(1<=m.a7/\m.a7<=3000)/\m.g7<40/\z3 m.i0=true/\m.a6=[])\/
 (m.a8=5/\m.a7=0/\m.g7<40/\z3 m.i0=true/\m.a6=[])\/
 (m.a8=6/\(1<=m.a7/\m.a7<=3000)/\m.g7=0/\m.i0=zE/\m.a6=[])\/
 (m.a8=7/\m.a7=0/\m.g7=0/\z3 m.i0=true/\m.i0.i8=false/\m.a6=[])\/
 (m.a8=8/\m.a7=0/\m.i0=zE/\m.a6=[])
structure MI(m:j8):Prop where
 fr:0<=m.c8/\m.c8<=2
 to:0<=m.To/\m.To<=2
 ne:m.c8≠m.To
 sl:0<=m.g7/\m.g7<=40
 kd:R8 m
theorem c50{m:j8}:O2 m=true↔MI m:=by
 have hk:(0<=m.g7/\m.g7<=40)->(a5C m=true↔R8 m):=by
  intro hs;have hw:K2 m.a6=true->m8 (m.g7+(m.a6.length:Int))=m.g7+(m.a6.length:Int):=by
   intro hv;have:=(a7v.1 hv).1;exact B9 (by omega) (by omega)
  unfold a5C R8;simp only [Bool.cond_eq_ite];by_cases k1:m.a8=1
  ·simp [k1,I4,a33]
  by_cases k4:m.a8=4
  ·simp [k4,I4,a33]
  by_cases k2:m.a8=2
  ·simp only [k2,I4,a33,beq_self_eq_true,if_true,e9N,decide_eq_true_eq];simp only [show ((2:Int)==1)=false from rfl,show ((2:Int)==4)=false from rfl,f0L,if_false,e9N,I4,a33,decide_eq_true_eq];constructor
   ·rintro ⟨a,b,c,d⟩
    rw [hw c] at d;exact .inr (.inl ⟨trivial,a,b,a7v.1 c,d⟩)
   ·rintro (h|h|h|h|h|h|h)
    ·omega
    ·have c:=a7v.2 h.2.2.2.1;exact ⟨h.2.1,h.2.2.1,c,by rw [hw c];exact h.2.2.2.2⟩
    all_goals exact absurd h.1 (by omega)
  by_cases k3:m.a8=3
  ·simp [k3,I4]
  by_cases k5:m.a8=5
  ·simp [k5]
  by_cases k6:m.a8=6
  ·simp [k6,I4,a33]
  by_cases k7:m.a8=7
  ·simp [k7]
  by_cases k8:m.a8=8
  ·simp [k8,a33]
  ·simp [k1,k2,k3,k4,k5,k6,k7,k8]
 unfold O2;simp only [e9N,I4,f0G,beq_eq_false_iff_ne];constructor
 ·rintro ⟨a,b,c,d,e⟩;exact ⟨a,b,c,d,(hk d).1 e⟩
 ·intro h;exact ⟨h.fr,h.to,h.ne,h.sl,(hk h.sl).2 h.kd⟩
theorem MI.ok{m:j8}(h:MI m):a0b m:=by
 have hf:=h.fr;have ht:=h.to;have hs:=h.sl;have hk:H7 m.a8/\H7 m.a7/\E3 m.i0/\z7 96 R2 m.a6:=by
  rcases h.kd with q|q|q|q|q|q|q
  ·rw [q.2.2.1,q.2.2.2];exact ⟨z8 (by omega),z8 (by omega),a0N,R9⟩
  ·rw [q.2.2.1];exact ⟨z8 (by omega),z8 (by omega),a0N,a3V (by omega) q.2.2.2.1.2⟩
  ·rw [q.2.2.2.2];exact ⟨z8 (by omega),z8 (by omega),a2N q.2.2.2.1,R9⟩
  ·rw [q.2.2.2.2];exact ⟨z8 (by omega),z8 (by omega),a2N q.2.2.2.1,R9⟩
  ·rw [q.2.2.2.2,q.2.2.2.1];exact ⟨z8 (by omega),z8 (by omega),a0N,R9⟩
  ·rw [q.2.2.2.2.2];exact ⟨z8 (by omega),z8 (by omega),a2N q.2.2.2.1,R9⟩
  ·rw [q.2.2.1,q.2.2.2];exact ⟨z8 (by omega),z8 (by omega),a0N,R9⟩
 exact ⟨hk.1,z8 (by omega),z8 (by omega),hk.2.1,z8 (by omega),hk.2.2.1,hk.2.2.2⟩
structure WI(w:m6):Prop where
 nl:w.a9.length=3
 ns:∀(i:Nat) (n:j6),w.a9[i]?=some n->n.Id=(i:Int)/\NI n
 ml:w.b9.length<=40
 ms:∀m∈w.b9,MI m
 al:w.d7.length<=60
 aq:∀a∈w.d7,W4 a=true
 tl:w.Told.length<=60
 ts:∀t∈w.Told,Q7 t=true
theorem a7a{w:m6}:J2 w=true↔WI w:=by
 unfold J2;simp only [e9N,beq_iff_eq,decide_eq_true_eq,List.all_eq_true,f0H,c50];constructor
 ·rintro ⟨h1,h2,h3,h4,h5,h6,h7,h8⟩
  refine ⟨by omega,?_,by omega,h6,by omega,h7,by omega,h8⟩;intro i n hn;have hi:=(e9P.1 hn).1;have:=h5 i hi;unfold a3p at this;rw [hn] at this;simp only [e9N,beq_iff_eq,a0Q] at this;exact this
 ·intro h;have h2:=h.ml;have h3:=h.al;have h4:=h.tl;refine ⟨by have:=h.nl;omega,by omega,by omega,by omega,?_,h.ms,h.aq,h.ts⟩;intro i hi;unfold a3p;rw [e9K hi];simp only [e9N,beq_iff_eq,a0Q];exact h.ns i _ (e9K hi)
theorem e86{a:v5}(h:W4 a=true):d2r a:=by
 unfold W4 at h;simp only [e9N,I4] at h;exact ⟨⟨z8 (by omega),z8 (by omega)⟩,d20 h.2⟩
theorem e4X{t:m9}(h:Q7 t=true):c8U t:=by
 unfold Q7 at h;simp only [e9N,I4] at h;exact ⟨z8 (by omega),⟨z8 (by omega),z8 (by omega)⟩,z8 (by omega),z8 (by omega)⟩
theorem WI.ok{w:m6}(h:WI w):a09 w:=by
 have h1:=h.nl;have h2:=h.ml;have h3:=h.al;have h4:=h.tl;refine ⟨Z3 (by omega) ?_,Z3 (by omega) fun m hm=>(h.ms m hm).ok,Z3 (by omega) fun a ha=>e86 (h.aq a ha),Z3 (by omega) fun t ht=>e4X (h.ts t ht)⟩;intro n hn;obtain ⟨i,hi⟩:=f05 hn;exact (h.ns i n hi).2.ok
theorem b4N(m o:j8):a4u m o=some [L5 m o]:=rfl
theorem c5O(n:j6)(b:Int):b3h n b=some (L8 n b):=by
 unfold b3h L8;cases n.d6 != 0
 ·rfl
 ·simp only [cond_true,e93];cases decide (b>n.a7)<;>rfl
theorem e06(n:j6)(b:Int):b2N n b=some (L8 n b):=by
 unfold b2N L8;cases n.d6 != 0
 ·rfl
 ·simp only [cond_true,e93];cases decide (b>n.a7)<;>rfl
theorem d1s(n:j6)(b:Int):(L8 n b).Acc=n.Acc:=by
 unfold L8;cases n.d6 != 0&&decide (b>n.a7)<;>rfl
theorem a3v{a x:x6}{b:Int}(h:G6 a b=some x):x=⟨b,a.a6⟩/\1<=b/\b<=3000/\a.g8<=b:=by
 unfold G6 a8W at h;cases hq:o7 b 1 3000&&decide (a.g8<=b)
 ·rw [hq] at h;cases h
 ·rw [hq] at h;simp only [e9N,I4,decide_eq_true_eq] at hq;injection h with h;exact ⟨h.symm,hq.1.1,hq.1.2,hq.2⟩
theorem c1c{α:Type}(l:List α)(k:Nat):(l.drop k).take (l.length-k)=l.drop k:=by
 rw [f0g];simp
theorem e0A{n:j6}(h:Q1 n){m:j8}(hs:0<=m.g7):b6U n m=some (a1p n m):=by
 unfold b6U a1p;rw [c00,b8j];cases hp:G6 n.Acc m.a7 with
 | none=>rfl
 | some a =>
  obtain ⟨rfl,_⟩:=a3v hp;simp only [a4e,e9J,e9O,cond_false,e06];have ha:=d1s {n with Acc:=⟨m.a7,n.Acc.a6⟩} m.a7;have hy:∀y:j6,y.Acc=⟨m.a7,n.Acc.a6⟩->(j6.mk y.Id (x6.mk y.Acc.g8 n.Acc.a6) y.a0 y.Seq y.d6 y.a7 y.c8 y.g9 y.c9 y.a6 y.i7 y.i5 y.b7 y.d9)=y:=by
   intro y hy;obtain ⟨y1,y2,y3,y4,y5,y6,y7,y8,y9,y10,y11,y12,y13,y14⟩:=y;simp only at hy;subst hy;rfl
  rw [hy _ ha];obtain ⟨k,hk⟩:∃k:Nat,m.g7=(k:Int):=⟨m.g7.toNat,by omega⟩
  rw [hk,e92,c1c];cases hd:decide ((k:Int)<(n.Acc.a6.length:Int))
  ·simp only [cond_false,b4N,e9J];rw [e91 (by simp at hd;omega)]
  ·simp only [cond_true];rw [t9 (by simp at hd;omega),d7v (e5A h.2.1.2 (by simp) fun x hx=>f0u hx),e9J,b4N,e9J]
theorem d6x{n:j6}{m:j8}(hm:a0b m):b7Z n m=some (a1m n m):=by
 have he:E3 m.i0:=hm.2.2.2.2.2.1;unfold b7Z a1m;rw [d1d he,c7J he];cases J3 n.Acc m.a7 m.g7 m.i0 with
 | none=>rfl
 | some a=>simp only [a4e,e9J,e9O,cond_false,c5O,b4N]
theorem b6y{l:List Bool}(h:l.length<=3):t8 l:=by unfold t8;omega
theorem e1a{n:j6}(h:NI n){m:j8}(hm:MI m)(hk:m.a8=2):b34 n m=some (a1B n m):=by
 have hkd:(m.a6.length<=40/\∀v∈m.a6,VI v)/\m.g7+m.a6.length<=40:=by
  rcases hm.kd with q|q|q|q|q|q|q
  ·omega
  ·exact ⟨q.2.2.2.1,q.2.2.2.2⟩
  all_goals exact absurd q.1 (by omega)
 have hs:=hm.sl;have hf:=hm.fr;unfold b34 a1B;by_cases p1:n.d6=1
 ·rw [show (n.d6 != 1)=false by simp [p1],f0i];simp only [cond_false];cases hb:m.a7 != n.a7
  ·simp only [cond_false];have hl:n.c8.length=3/\Own n:=by
    rcases h.ld with q|q|q|q
    ·omega
    ·exact ⟨q.2.2.1,q.2.1⟩
    all_goals exact absurd q.1 (by omega)
   obtain ⟨f,hff⟩:∃f:Nat,m.c8=(f:Int):=⟨m.c8.toNat,by omega⟩
   have hvo:z7 96 R2 (e9L m.g7.toNat v0++m.a6):=a3V (by simp;omega) (by
    intro v hv;rcases List.mem_append.1 hv with q|q
    ·rw [(f0n.1 q).2];exact .inl rfl
    ·exact hkd.1.2 v q)
   have hz:∀v∈e9L m.g7.toNat v0++m.a6,v.a7<=0->v=v0:=by
    intro v hv hb;rcases List.mem_append.1 hv with q|q
    ·exact (f0n.1 q).2
    ·exact (hkd.1.2 v q).zero hb
   rw [hff,u0 (show f<n.c8.length by omega),e9J,d9j (a3V (by omega) hkd.1.2) hkd.1.1 hs,e9J,e2A (a3V (by have:=hl.2.bl;omega) hl.2.bs) hvo (by have:=hl.2.bl;omega) (by simp;omega) hz,e9J,d3y (b6y (by simp;omega)),e9J];cases htw:M1 (n.c8.set (f:Int).toNat true)
   ·simp only [e98,cond_true,cond_false]
   ·simp only [e9O,cond_false,cond_true];have hbl:=a7o n.g9 (e9L m.g7.toNat v0++m.a6);have hob:=hl.2.bl;have hlen:(e9L m.g7.toNat v0++m.a6).length<=40:=by simp;omega
    obtain ⟨h1,h2,h3,h4,h5,h6,h7,h8,h9,h10,h11,h12,h13⟩:=h.ok;rw [b2U (n:=⟨n.Id,n.Acc,n.a0,n.Seq,2,n.a7,[],C8 n.g9 (e9L m.g7.toNat v0++m.a6),n.c9,n.a6,n.i7,n.i5,n.b7,n.d9⟩) ⟨h1,h2,h3,h4,z8 (n:=2) (by omega),h6,R9,a3V (by show (C8 n.g9 (e9L m.g7.toNat v0++m.a6)).length<=1000;omega) (fun v hv=>(a8Z hv).elim (fun q=>hl.2.bs v q) (fun q=>(List.mem_append.1 q).elim (fun q=>by rw [(f0n.1 q).2];exact .inl rfl) (hkd.1.2 v))),h9,h10,h11,h12,h13⟩ h.id,e9J]
  ·rfl
 ·rw [show (n.d6 != 1)=true by simpa using p1];rfl
theorem a0i(id:Int)(m:j8):(H2 id m).length<=3:=by
 unfold H2;rw [f0D];exact List.length_filter_le _ _
theorem a8k(n:j6):(L2 n).2.length<=3:=by
 unfold L2 a5u;cases n.d6 != 2||decide (40<=n.a0.length)
 ·simp only [cond_false];cases a0j n with
  | mk x o =>
   cases o with
   | none=>simp
   | some e =>
    simp only;cases J3 x.Acc x.a7 (x.a0.length:Int) e with
    | none=>simp
    | some a=>exact a0i _ _
 ·simp
theorem e9d{n:j6}(h:NI n){m:j8}(hm:MI m):b5u n m=some (a1V n m):=by
 have hf:=hm.fr;unfold b5u a1V;by_cases p3:n.d6=3
 ·rw [show (n.d6 != 3)=false by simp [p3],f0i];simp only [cond_false];cases hb:m.a7 != n.a7
  ·simp only [cond_false,f0i];cases hs:m.g7 != (n.a0.length:Int)
   ·simp only [cond_false];have hl:n.a6.length=3/\z3 n.c9=true/\n.a0.length<40:=by
     rcases h.ld with q|q|q|q
     ·omega
     ·omega
     ·omega
     ·exact ⟨q.2.2.2.2.1,q.2.2.2.1,q.2.2.2.2.2.2⟩
    obtain ⟨f,hff⟩:∃f:Nat,m.c8=(f:Int):=⟨m.c8.toNat,by omega⟩
    have hcur:=a2N hl.2.1;rw [hff,u0 (show f<n.a6.length by omega),e9J,d3y (b6y (by simp;omega)),e9J];cases htw:M1 (n.a6.set (f:Int).toNat true)
    ·simp only [e98,cond_true,cond_false]
    ·simp only [e9O,cond_false,cond_true];obtain ⟨h1,h2,h3,h4,h5,h6,h7,h8,h9,h10,h11,h12,h13⟩:=h.ok;rw [a0g hcur,e9J,a6D h.id (a78 (z8 (by omega)) Z0 (z8 (by omega)) hcur R9),e9J,
      c4y (n:={n with a6:=n.a6.set (f:Int).toNat true}) ⟨h1,h2,h3,h4,h5,h6,h7,h8,h9,Z3 (by simp;omega) (fun _ _=>trivial),h11,h12,h13⟩ h.id h.list hl.2.2 hcur hl.2.1,e9J,t9]
     have e1:=a0i n.Id ⟨5,0,0,0,(n.a0.length:Int),n.c9,[]⟩;have e2:=a8k (S9 (D1 {n with a6:=n.a6.set (f:Int).toNat true} n.c9)).1;have e3:(U8 {n with a6:=n.a6.set (f:Int).toNat true} n.c9).2.1.length<=3:=e2;omega
   ·rfl
  ·rfl
 ·rw [show (n.d6 != 3)=true by simpa using p3];rfl
theorem d7i{n:j6}(h:NI n){m:j8}(hm:MI m)(hk:m.a8=5):b5s n m=some (a1X n m):=by
 have hkd:m.g7<40/\z3 m.i0=true:=by
  rcases hm.kd with q|q|q|q|q|q|q
  ·omega
  ·omega
  ·omega
  ·exact ⟨q.2.2.1,q.2.2.2.1⟩
  all_goals exact absurd q.1 (by omega)
 unfold b5s a1X;cases h1:decide (m.g7<(n.a0.length:Int))
 ·cases h2:decide (m.g7>(n.a0.length:Int))
  ·simp only [cond_false];have hl:n.a0.length<40:=by simp at h1 h2;omega
   rw [c4y h.ok h.id h.list hl (a2N hkd.2) hkd.2,e9J]
  ·rfl
 ·rfl
theorem e9l{n:j6}(h:NI n){m:j8}(hm:MI m):b8r n m=some (a1k n m):=by
 have he:E3 m.i0:=hm.ok.2.2.2.2.2.1;have hql:=h.ql;unfold b8r a1k;rw [show decide ((n.d9.length:Int)>=4)=decide (4<=n.d9.length) by simp;omega,b5A (h.ok.2.2.1.fits (by decide)),a0g he];cases n.d6==0
 ·simp only [cond_false,f0i];cases decide (4<=n.d9.length)
  ·simp only [cond_false,f0i,e9J];cases M2 n.a0 m.i0.a5
   ·obtain ⟨h1,h2,h3,h4,h5,h6,h7,h8,h9,h10,h11,h12,h13⟩:=h.ok;simp only [cond_false];rw [t9 (by omega),b2U (n:={n with d9:=n.d9++[m.i0]}) ⟨h1,h2,h3,h4,h5,h6,h7,h8,h9,h10,h11,h12,Z3 (by simp;omega) (by
     intro x hx;rcases List.mem_append.1 hx with q|q
     ·exact h13.2 x q
     ·rw [e9Q.1 q];exact he)⟩ h.id,e9J]
   ·rfl
  ·rfl
 ·rfl
theorem b3S{n:j6}(m:j8){k:Nat}(hk:k<n.a0.length):a0V n m k=[L5 m ⟨5,0,0,0,(k:Int),n.a0[k],[]⟩]:=by
 unfold a0V;rw [e9K hk]
theorem d0H{n:j6}(h:NI n)(m:j8):∀(d k:Nat) (o:List j8),n.a0.length-k=d->o.length<=k->p8 (fun s:(List j8)×Int=>a45 n m s.1 s.2) (o,(k:Int))=some (.brk (o++((e9U d).map fun j=>a0V n m (k+j)).flatten))
 | 0,k,o,hd,ho=>by
  have hkl:=h.kl;refine (C6 (b:=o) ?_).trans (by simp);show a45 n m o (k:Int)=_
  unfold a45;rw [show decide ((k:Int)<(n.a0.length:Int))=false by simp;omega];rfl
 | d+1,k,o,hd,ho=>by
  have hkl:=h.kl;have hlt:k<n.a0.length:=by omega
  have hb:a45 n m o (k:Int)=some (.nxt (o++a0V n m k,((k+1:Nat):Int))):=by
   unfold a45;rw [x8 _ k hlt,u0 hlt,cond_true,e9J,a0g (a2N (h.ks _ (e9M hlt))),e9J,b4N,e9J,t9 (by simp;omega),b3S m hlt,F3 (h.ok.2.2.1.fits (by decide)) hlt]
  rw [E1 (body:=fun s:(List j8)×Int=>a45 n m s.1 s.2) (s:=(o,(k:Int))) hb,d0H h m d (k+1) _ (by omega) (by rw [b3S m hlt];simp;omega)];rw [List.range_succ_eq_map,f0e,f0a,e9Y,f1k];simp only [f00,Function.comp_def,Nat.succ_eq_add_one,Nat.add_assoc,Nat.add_comm 1]
theorem d4M{n:j6}(h:NI n){m:j8}(hs:0<=m.g7):b6p n m=some (a3h n m,n):=by
 unfold b6p a3h;obtain ⟨k,hk⟩:∃k:Nat,m.g7=(k:Int):=⟨m.g7.toNat,by omega⟩
 rw [hk];have:=d0H h m (n.a0.length-k) k [] rfl (by simp);rw [this];rfl
theorem d4L{n:j6}(h:NI n){m:j8}(hm:MI m):b7i n m=some (U4 n m):=by
 unfold b7i U4;rw [e0A h.ok hm.sl.1,d6x hm.ok,e9d h hm,e9l h hm,d4M h hm.sl.1,b8j];by_cases k1:m.a8=1
 ·simp [k1];rfl
 rw [show (m.a8==1)=false by simpa using k1];by_cases k2:m.a8=2
 ·rw [e1a h hm k2];simp [k2];rfl
 rw [show (m.a8==2)=false by simpa using k2];by_cases k3:m.a8=3
 ·simp [k3];rfl
 rw [show (m.a8==3)=false by simpa using k3];by_cases k4:m.a8=4
 ·simp [k4];rfl
 rw [show (m.a8==4)=false by simpa using k4];by_cases k5:m.a8=5
 ·rw [d7i h hm k5];simp [k5];rfl
 rw [show (m.a8==5)=false by simpa using k5];by_cases k6:m.a8=6
 ·rw [show (m.a8==6)=true by simpa using k6];simp only [cond_true,cond_false,e9J];cases G6 n.Acc m.a7<;>simp only [c5O,e9J,Option.getD_none,f0R]<;>rfl
 rw [show (m.a8==6)=false by simpa using k6];by_cases k7:m.a8=7
 ·simp [k7];rfl
 rw [show (m.a8==7)=false by simpa using k7];cases m.a8==8
 ·rfl
 ·simp only [cond_true,cond_false,e9J];rw [t9 trivial,t9 trivial,t9 trivial,t9 trivial,t9 trivial];rfl
theorem b6N{a x:x6}{b s:Int}{e:m4}(h:J3 a b s e=some x):∃k:Nat,s=(k:Int)/\k<40/\z3 e=true/\1<=b/\b<=3000/\a.g8<=b/\x=⟨b,(Q9 a.a6 (k+1)).set k ⟨b,e⟩⟩:=by
 unfold J3 at h;cases hq:o7 s 0 39&&z3 e
 ·rw [hq] at h;cases h
 ·rw [hq,cond_true] at h;simp only [e9N,I4] at hq;cases hp:G6 a b with
  | none=>rw [hp] at h;cases h
  | some y =>
   rw [hp] at h;obtain ⟨rfl,h1,h2,h3⟩:=a3v hp;injection h with h;refine ⟨s.toNat,by omega,by omega,hq.2,h1,h2,h3,h.symm⟩
theorem b7Y{a:x6}{b:Int}(h1:1<=b)(h2:b<=3000)(h3:a.g8<=b):G6 a b=some ⟨b,a.a6⟩:=by
 unfold G6 a8W;rw [I4.2 ⟨h1,h2⟩,show decide (a.g8<=b)=true by simpa using h3];rfl
theorem d4a{a:x6}{b:Int}{k:Nat}{e:m4}(hk:k<40)(he:z3 e=true)(h1:1<=b)(h2:b<=3000)(h3:a.g8<=b):J3 a b (k:Int) e=some ⟨b,(Q9 a.a6 (k+1)).set k ⟨b,e⟩⟩:=by
 unfold J3;rw [I4.2 (show 0<=(k:Int)/\(k:Int)<=39 by omega),he,b7Y h1 h2 h3];rfl
theorem c2a{vs:List m7}{n:Nat}{v:m7}(h:v∈Q9 vs n):v∈vs\/v=v0:=by
 rcases List.mem_append.1 h with q|q
 ·exact .inl q
 ·exact .inr (f0n.1 q).2
theorem d2e{α:Type}{l:List α}{k:Nat}{x v:α}(h:v∈l.set k x):v∈l\/v=x:=List.mem_or_eq_of_mem_set h
theorem NI.queue{n:j6}(h:NI n){q:List m4}(hl:q.length<=4)(hm:∀e∈q,z3 e=true/\e.i8=false):NI {n with d9:=q} :=
 ⟨h.id,h.pr,h.vl,h.vs,h.kl,h.ks,h.sq,hl,hm,h.ld,h.wt⟩
theorem NI.down{n:j6}(h:NI n):NI (a3Y n) :=
 ⟨h.id,h.pr,h.vl,h.vs,h.kl,h.ks,h.sq,h.ql,h.qs,.inl ⟨rfl,rfl,rfl,rfl,rfl,rfl⟩,h.wt⟩
theorem NI.freeN{n:j6}(h:NI n):NI (a6d n) :=
 ⟨h.id,h.pr,h.vl,h.vs,h.kl,h.ks,h.sq,h.ql,h.qs,h.ld,.inr ⟨rfl,rfl,rfl⟩⟩
theorem NI.acc{n:j6}(h:NI n){a:x6}(h1:0<=a.g8/\a.g8<=3000)(h2:a.a6.length<=40)(h3:∀v∈a.a6,VI v/\v.a7<=a.g8)(h4:n.Acc.g8<=a.g8):NI {n with Acc:=a}:=by
 have ho:Own n->Own {n with Acc:=a}:=fun o=>⟨o.b1,o.b2,o.mod,f0q o.pr h4,o.bl,o.bs⟩
 refine ⟨h.id,h1,h2,h3,h.kl,h.ks,h.sq,h.ql,h.qs,?_,h.wt⟩;rcases h.ld with q|q|q|q
 ·exact .inl q
 ·exact .inr (.inl ⟨q.1,ho q.2.1,q.2.2⟩)
 ·exact .inr (.inr (.inl ⟨q.1,ho q.2.1,q.2.2⟩))
 ·exact .inr (.inr (.inr ⟨q.1,ho q.2.1,q.2.2⟩))
theorem NI.promise{n:j6}(h:NI n){b:Int}{x:x6}(hp:G6 n.Acc b=some x):NI {n with Acc:=x}:=by
 obtain ⟨rfl,h1,h2,h3⟩:=a3v hp;exact h.acc ⟨by simp only;omega,h2⟩ h.vl (fun v hv=>⟨(h.vs v hv).1,f0q (h.vs v hv).2 h3⟩) h3
theorem d7J{vs:List m7}{p b:Int}{k:Nat}{e:m4}(hk:k<40)(hl:vs.length<=40)(hv:∀v∈vs,VI v/\v.a7<=p)(he:z3 e=true)(h1:1<=b)(h2:b<=3000)(h3:p<=b) :
  ((Q9 vs (k+1)).set k ⟨b,e⟩).length<=40/\∀v∈(Q9 vs (k+1)).set k ⟨b,e⟩,VI v/\v.a7<=b:=by
 refine ⟨by rw [f0O,b5v];omega,fun v hm => ?_⟩;rcases d2e hm with q|q
 ·rcases c2a q with q|q
  ·exact ⟨(hv v q).1,f0q (hv v q).2 h3⟩
  ·rw [q];exact ⟨.inl rfl,by show (0:Int)<=b;omega⟩
 ·rw [q];exact ⟨.inr ⟨h1,h2,he⟩,f0b _⟩
theorem NI.cast{n:j6}(h:NI n){b s:Int}{e:m4}{x:x6}(hc:J3 n.Acc b s e=some x):NI {n with Acc:=x}:=by
 obtain ⟨k,rfl,hk,he,h1,h2,h3,rfl⟩:=b6N hc;obtain ⟨a,b'⟩:=d7J hk h.vl h.vs he h1 h2 h3;exact h.acc ⟨by simp only;omega,h2⟩ a b' h3
theorem NI.yield{n:j6}(h:NI n)(b:Int):NI (L8 n b):=by
 unfold L8;cases n.d6 != 0&&decide (b>n.a7)
 ·exact h
 ·exact h.down
theorem c2N{id:Int}(h:0<=id/\id<=2):(a0G id).length=3/\(a0G id)[id.toNat]?=some true:=by
 unfold a0G;refine ⟨by simp,?_⟩;rw [f0F (by simp;omega)]
theorem a1U.right{n:j6}(h:NI n){e:m4}(hn:a1U n e):z3 e=true:=by
 cases hn with
 | best v hv hb=>exact (h.ld.best.2 v (e9W hv)).pos hb
 | gap=>rfl
 | want hb =>
  rcases h.wt with q|q
  ·exact q.2.2.1
  ·rw [hb] at q;cases q.1
 | queue e hq=>exact (h.qs e hq).1
theorem a26{id:Int}{m x:j8}(hid:0<=id/\id<=2)(h:x∈H2 id m):∃t:Int,0<=t/\t<=2/\t≠id/\x={m with c8:=id,To:=t}:=by
 unfold H2 at h;obtain ⟨t,ht,rfl⟩:=List.mem_map.1 h;obtain ⟨h1,h2⟩:=List.mem_filter.1 ht;refine ⟨t,?_,?_,by simpa using h2,rfl⟩;all_goals simp at h1;omega
theorem a47{id:Int}{m:j8}(hid:0<=id/\id<=2)(hk:R8 m)(hs:0<=m.g7/\m.g7<=40):∀x∈H2 id m,MI x:=by
 intro x hx;obtain ⟨t,h1,h2,h3,rfl⟩:=a26 hid hx;exact ⟨hid,⟨h1,h2⟩,fun q=>h3 q.symm,hs,hk⟩
theorem a9p{m o:j8}(hm:MI m)(hk:R8 o)(hs:0<=o.g7/\o.g7<=40):MI (L5 m o):=⟨hm.to,hm.fr,fun q=>hm.ne q.symm,hs,hk⟩
theorem R8.one{k b s:Int}(hk:k=1\/k=4)(hb:1<=b/\b<=3000):R8 ⟨k,0,0,b,s,zE,[]⟩:=.inl ⟨hk,hb,rfl,rfl⟩
theorem R8.accept{b s:Int}{e:m4}(hb:1<=b/\b<=3000)(hs:s<40)(he:z3 e=true):R8 ⟨3,0,0,b,s,e,[]⟩:=.inr (.inr (.inl ⟨rfl,hb,hs,he,rfl⟩))
theorem R8.chosen{s:Int}{e:m4}(hs:s<40)(he:z3 e=true):R8 ⟨5,0,0,0,s,e,[]⟩:=.inr (.inr (.inr (.inl ⟨rfl,rfl,hs,he,rfl⟩)))
theorem R8.refuse{b:Int}(hb:1<=b/\b<=3000):R8 ⟨6,0,0,b,0,zE,[]⟩:=.inr (.inr (.inr (.inr (.inl ⟨rfl,hb,rfl,rfl,rfl⟩))))
theorem R8.ask{e:m4}(he:z3 e=true)(hn:e.i8=false):R8 ⟨7,0,0,0,0,e,[]⟩:=.inr (.inr (.inr (.inr (.inr (.inl ⟨rfl,rfl,rfl,he,hn,rfl⟩)))))
theorem R8.need{s:Int}:R8 ⟨8,0,0,0,s,zE,[]⟩:=.inr (.inr (.inr (.inr (.inr (.inr ⟨rfl,rfl,rfl,rfl⟩)))))
structure P7(n:j6)(x:j6×List j8):Prop where
 ni:NI x.1
 id:x.1.Id=n.Id
 ms:∀m∈x.2,MI m
theorem P7.same{n:j6}(h:NI n):P7 n (n,[]):=⟨h,rfl,by simp⟩
theorem P7.to{n n':j6}(hi:n'.Id=n.Id){x:j6×List j8}(h:P7 n' x):P7 n x:=⟨h.ni,h.id.trans hi,h.ms⟩
theorem a9y{n:j6}(h:NI n):P7 n (L2 n):=by
 unfold L2;cases hc:n.d6 != 2||decide (40<=n.a0.length)
 ·simp only [cond_false];simp only [f0E,bne_eq_false_iff_eq,decide_eq_false_iff_not] at hc;obtain ⟨q,hq,hql,hqm,hqe⟩:=b0e n;cases hx:a0j n with
  | mk x o =>
  rw [hx] at hq hqe;have hq:x={n with d9:=q}:=hq;have hn:NI {n with d9:=q}:=h.queue (by have:=h.ql;omega) fun e he=>h.qs e (hqm e he)
  subst hq;cases o with
  | none=>exact ⟨hn,rfl,by simp⟩
  | some e =>
   have he:=(hqe e rfl).right h;simp only [a5u];have ho:Own n:=by
    rcases h.ld with q|q|q|q
    ·omega
    ·omega
    ·exact q.2.1
    ·omega
   cases hcs:J3 n.Acc n.a7 (n.a0.length:Int) e with
   | none=>exact ⟨hn.down,rfl,by simp⟩
   | some a =>
    have hac:=hn.cast (b:=n.a7) (s:=(n.a0.length:Int)) (e:=e) hcs;obtain ⟨k,hk,hk40,_,h1,h2,h3,rfl⟩:=b6N hcs;refine ⟨⟨h.id,hac.pr,hac.vl,hac.vs,h.kl,h.ks,h.sq,hn.ql,hn.qs,?_,h.wt⟩,rfl,a47 h.id (.accept ⟨h1,h2⟩ (by omega) he) (by simp only;omega)⟩;refine .inr (.inr (.inr ⟨rfl,⟨ho.b1,ho.b2,ho.mod,f0b _,ho.bl,ho.bs⟩,?_,he,(c2N h.id).1,(c2N h.id).2,by simp only;omega⟩));rcases h.ld with q|q|q|q
    ·omega
    ·omega
    ·exact q.2.2.1
    ·omega
 ·exact .same h
theorem NI.know{n:j6}(h:NI n){e:m4}(he:z3 e=true)(hl:n.a0.length<40):NI (D1 n e):=by
 have hks:∀x∈n.a0++[e],z3 x=true:=by
  intro x hx;rcases List.mem_append.1 hx with q|q
  ·exact h.ks x q
  ·rw [e9Q.1 q];exact he
 have hkl:(n.a0++[e]).length<=40:=by simp;omega
 unfold D1;by_cases p3:n.d6=3
 ·rw [show (n.d6==3)=true by simpa using p3];refine ⟨h.id,h.pr,h.vl,h.vs,hkl,hks,h.sq,h.ql,h.qs,?_,h.wt⟩;rcases h.ld with q|q|q|q
  ·omega
  ·omega
  ·omega
  ·exact .inr (.inr (.inl ⟨rfl,⟨q.2.1.b1,q.2.1.b2,q.2.1.mod,q.2.1.pr,q.2.1.bl,q.2.1.bs⟩,q.2.2.1,rfl,rfl⟩))
 ·rw [show (n.d6==3)=false by simpa using p3];refine ⟨h.id,h.pr,h.vl,h.vs,hkl,hks,h.sq,h.ql,h.qs,?_,h.wt⟩;rcases h.ld with q|q|q|q
  ·exact .inl q
  ·exact .inr (.inl ⟨q.1,⟨q.2.1.b1,q.2.1.b2,q.2.1.mod,q.2.1.pr,q.2.1.bl,q.2.1.bs⟩,q.2.2⟩)
  ·exact .inr (.inr (.inl ⟨q.1,⟨q.2.1.b1,q.2.1.b2,q.2.1.mod,q.2.1.pr,q.2.1.bl,q.2.1.bs⟩,q.2.2⟩))
  ·exact absurd q.1 p3
theorem e71{s:v6}{e:m4}(hn:e.i8=false):0<=(apply s e).2/\(apply s e).2<=4:=by
 have hf:0<=(a1s s e).2/\(a1s s e).2<=4:=by
  unfold a1s;cases a36 s.i4 e.b8
  ·exact ⟨by simp,by simp⟩
  ·cases e.b8.Code==0<;>exact ⟨by simp,by simp⟩
 unfold apply;rw [hn];simp only [cond_false];cases s.i9.find? fun d=>d.a5.d8==e.a5.d8 with
 | none=>exact hf
 | some d =>
  simp only;cases d.a5.Seq==e.a5.Seq
  ·cases decide (d.a5.Seq>e.a5.Seq)
   ·exact hf
   ·exact ⟨by simp,by simp⟩
  ·exact ⟨by simp,by simp⟩
theorem b1W{l:List m4}{q:q8}{k:Nat}(h:l.findIdx? (H1 q)=some k):∃hk:k<l.length,l[k].i8=false/\l[k].a5=q:=by
 rw [f0Q] at h;obtain ⟨hk,h1,_⟩:=h;unfold H1 at h1;simp only [e9N,f0G] at h1;exact ⟨hk,h1.1,b6P.1 h1.2⟩
theorem c2B{l:List m4}(h:G5 l=true){k:Nat}(hk:k<l.length):T2 l k=(apply (z4 (l.take k)).1 l[k]).2:=by
 obtain ⟨a,b⟩:=a34 h;unfold T2;rw [d0N a b hk];rfl
theorem e4w{l:List m4}(h:∀e∈l,z3 e=true)(q:q8):-1000000<=a1i l q/\a1i l q<=1000000:=by
 unfold a1i;cases hf:l.findIdx? (H1 q) with
 | none=>exact ⟨by simp,by simp⟩
 | some k =>
  obtain ⟨hk,h1,h2⟩:=b1W hf;simp only [e9K hk];exact (a6F (a8L (h _ (e9M hk)) h1).2.2.1).2.1
theorem d7E{n:j6}(h:NI n):NI (S9 n).1/\∀t∈(S9 n).2,Q7 t=true:=by
 rcases a9P n with q|⟨k,hb,hk,q⟩<;>rw [q]
 ·exact ⟨h,by simp⟩
 ·refine ⟨h.freeN,fun t ht => ?_⟩;obtain ⟨hkl,h1,h2⟩:=b1W hk;have ht:=e9Q.1 ht;subst ht;have hw:n.b7.a5=⟨n.Id,n.Seq⟩/\z3 n.b7=true/\n.b7.i8=false:=by
   rcases h.wt with q|q
   ·exact ⟨q.2.2.2.2,q.2.2.1,q.2.2.2.1⟩
   ·rw [hb] at q;cases q.1
  obtain ⟨w1,w2,_⟩:=a8L hw.2.1 hw.2.2;have hc:=e71 (s:=(z4 (n.a0.take k)).1) h1;rw [<-c2B h.list hkl] at hc;have hv:=e4w h.ks n.b7.a5;unfold Q7;simp only [e9N,I4,beq_iff_eq];refine ⟨h.id,⟨w1,w2⟩,by rw [hw.1],hc,?_⟩;cases T2 n.a0 k==0
  ·exact ⟨by simp,by simp⟩
  ·exact hv
structure a6u(n:j6)(x:j6×List j8×List m9):Prop where
 ni:NI x.1
 id:x.1.Id=n.Id
 ms:∀m∈x.2.1,MI m
 ts:∀t∈x.2.2,Q7 t=true
theorem P7.three{n:j6}{x:j6×List j8}(h:P7 n x):a6u n (x.1,x.2,[]):=⟨h.ni,h.id,h.ms,by simp⟩
theorem a6u.same{n:j6}(h:NI n):a6u n (n,[],[]):=⟨h,rfl,by simp,by simp⟩
theorem c9F{n:j6}(h:NI n){e:m4}(he:z3 e=true)(hl:n.a0.length<40):a6u n (U8 n e):=by
 have h1:=h.know he hl;obtain ⟨h2,h3⟩:=d7E h1;have h4:=a9y h2;exact ⟨h4.ni,h4.id.trans ((d0W _).trans (b5w _ _)),h4.ms,h3⟩
theorem d4N{a:x6}{b:Int}(h:G6 a b=none)(hb:1<=b/\b<=3000):b<a.g8:=by
 by_cases q:a.g8<=b
 ·rw [b7Y hb.1 hb.2 q] at h;cases h
 ·omega
theorem c8A{n:j6}(h:NI n){m:j8}(hm:MI m)(hk:m.a8=1):P7 n (a1p n m):=by
 have hb:1<=m.a7/\m.a7<=3000:=by
  rcases hm.kd with q|q|q|q|q|q|q
  ·exact q.2.1
  all_goals exact absurd q.1 (by omega)
 have hs:=hm.sl;unfold a1p;cases hp:G6 n.Acc m.a7 with
 | none =>
  have:=d4N hp hb;refine ⟨h,rfl,fun x hx => ?_⟩;rw [e9Q.1 hx];exact a9p hm (.refuse (by have:=h.pr;omega)) (by simp)
 | some a =>
  have hn:=(h.promise hp).yield m.a7;obtain ⟨rfl,_⟩:=a3v hp;refine ⟨hn,?_,fun x hx => ?_⟩
  ·simp only [L8];cases n.d6 != 0&&decide (m.a7>n.a7)<;>rfl
  ·rw [e9Q.1 hx];have hvl:=h.vl;refine a9p hm (.inr (.inl ⟨rfl,hb,rfl,⟨by simp;omega,fun v hv=>(h.vs v (f0u hv)).1⟩,by simp;omega⟩)) hs
theorem a6o(n:j6)(b:Int):(L8 n b).Id=n.Id:=by
 unfold L8;cases n.d6 != 0&&decide (b>n.a7)<;>rfl
theorem e5d{a:x6}{b:Int}{k:Nat}{e:m4}(h:J3 a b (k:Int) e=none)(hk:k<40)(he:z3 e=true)(hb:1<=b/\b<=3000):b<a.g8:=by
 by_cases q:a.g8<=b
 ·rw [d4a hk he hb.1 hb.2 q] at h;cases h
 ·omega
theorem d0V{n:j6}(h:NI n){m:j8}(hm:MI m)(hk:m.a8=3):P7 n (a1m n m):=by
 have hb:(1<=m.a7/\m.a7<=3000)/\m.g7<40/\z3 m.i0=true:=by
  rcases hm.kd with q|q|q|q|q|q|q
  ·omega
  ·omega
  ·exact ⟨q.2.1,q.2.2.1,q.2.2.2.1⟩
  all_goals exact absurd q.1 (by omega)
 have hs:=hm.sl;obtain ⟨k,hsk⟩:∃k:Nat,m.g7=(k:Int):=⟨m.g7.toNat,by omega⟩
 unfold a1m;cases hp:J3 n.Acc m.a7 m.g7 m.i0 with
 | none =>
  rw [hsk] at hp;have:=e5d hp (by omega) hb.2.2 hb.1;refine ⟨h,rfl,fun x hx => ?_⟩;rw [e9Q.1 hx];exact a9p hm (.refuse (by have:=h.pr;omega)) (by simp)
 | some a =>
  refine ⟨(h.cast hp).yield m.a7,a6o _ _,fun x hx => ?_⟩;rw [e9Q.1 hx];exact a9p hm (.one (.inr rfl) hb.1) hs
theorem c0t{n:j6}(h:NI n){m:j8}(hm:MI m)(hk:m.a8=2):P7 n (a1B n m):=by
 have hkd:(m.a6.length<=40/\∀v∈m.a6,VI v)/\m.g7+m.a6.length<=40:=by
  rcases hm.kd with q|q|q|q|q|q|q
  ·omega
  ·exact ⟨q.2.2.2.1,q.2.2.2.2⟩
  all_goals exact absurd q.1 (by omega)
 have hs:=hm.sl;have hf:=hm.fr;unfold a1B;cases hc:n.d6 != 1||m.a7 != n.a7
 ·simp only [f0E,bne_eq_false_iff_eq] at hc;simp only [cond_false];have hl:Own n/\n.c8.length=3/\n.c8[n.Id.toNat]?=some true/\n.c9=zE/\n.a6=[]:=by
   rcases h.ld with q|q|q|q
   ·omega
   ·exact q.2
   all_goals exact absurd q.1 (by omega)
  have hbl:=a7o n.g9 (e9L m.g7.toNat v0++m.a6);have hob:=hl.1.bl;have hlen:(e9L m.g7.toNat v0++m.a6).length<=40:=by simp;omega
  have hbs:∀v∈C8 n.g9 (e9L m.g7.toNat v0++m.a6),VI v:=fun v hv=>(a8Z hv).elim (fun q=>hl.1.bs v q) (fun q=>(List.mem_append.1 q).elim (fun q=>by rw [(f0n.1 q).2];exact .inl rfl) (hkd.1.2 v))
  cases M1 (n.c8.set m.c8.toNat true)
  ·simp only [cond_false];refine ⟨⟨h.id,h.pr,h.vl,h.vs,h.kl,h.ks,h.sq,h.ql,h.qs,.inr (.inl ⟨hc.1,⟨hl.1.b1,hl.1.b2,hl.1.mod,hl.1.pr,by show (C8 _ _).length<=40;omega,hbs⟩,by simp [hl.2.1],?_,hl.2.2.2.1,hl.2.2.2.2⟩),h.wt⟩,rfl,by simp⟩;show (n.c8.set m.c8.toNat true)[n.Id.toNat]?=some true
   by_cases q:m.c8.toNat=n.Id.toNat
   ·rw [q,f0F (by have:=h.id;omega)]
   ·rw [e90 q];exact hl.2.2.1
  ·simp only [cond_true];refine P7.to (n:=n) (n':={n with c8:=[],g9:=C8 n.g9 (e9L m.g7.toNat v0++m.a6),d6:=2}) rfl (a9y ?_);exact ⟨h.id,h.pr,h.vl,h.vs,h.kl,h.ks,h.sq,h.ql,h.qs,.inr (.inr (.inl ⟨rfl,⟨hl.1.b1,hl.1.b2,hl.1.mod,hl.1.pr,by show (C8 _ _).length<=40;omega,hbs⟩,rfl,hl.2.2.2.1,hl.2.2.2.2⟩)),h.wt⟩
 ·exact .same h
theorem d1B{n:j6}(h:NI n){m:j8}(hm:MI m):a6u n (a1V n m):=by
 have hf:=hm.fr;unfold a1V;cases hc:n.d6 != 3||(m.a7 != n.a7||m.g7 != (n.a0.length:Int))
 ·simp only [f0E,bne_eq_false_iff_eq] at hc;simp only [cond_false];have hl:Own n/\n.c8=[]/\z3 n.c9=true/\n.a6.length=3/\n.a6[n.Id.toNat]?=some true/\n.a0.length<40:=by
   rcases h.ld with q|q|q|q
   ·omega
   ·omega
   ·omega
   ·exact q.2
  have hn:NI {n with a6:=n.a6.set m.c8.toNat true}:=by
   refine ⟨h.id,h.pr,h.vl,h.vs,h.kl,h.ks,h.sq,h.ql,h.qs,.inr (.inr (.inr ⟨hc.1,⟨hl.1.b1,hl.1.b2,hl.1.mod,hl.1.pr,hl.1.bl,hl.1.bs⟩,hl.2.1,hl.2.2.1,by simp [hl.2.2.2.1],?_,hl.2.2.2.2.2⟩)),h.wt⟩;show (n.a6.set m.c8.toNat true)[n.Id.toNat]?=some true
   by_cases q:m.c8.toNat=n.Id.toNat
   ·rw [q,f0F (by have:=h.id;omega)]
   ·rw [e90 q];exact hl.2.2.2.2.1
  cases M1 (n.a6.set m.c8.toNat true)
  ·exact ⟨hn,rfl,by simp,by simp⟩
  ·simp only [cond_true];have hr:=c9F hn hl.2.2.1 hl.2.2.2.2.2;refine ⟨hr.ni,hr.id,fun x hx => ?_,hr.ts⟩;rcases List.mem_append.1 hx with q|q
   ·exact a47 h.id (.chosen (by omega) hl.2.2.1) (by simp only;omega) x q
   ·exact hr.ms x q
 ·exact .same h
theorem c6Q{n:j6}(h:NI n){m:j8}(hm:MI m)(hk:m.a8=5):a6u n (a1X n m):=by
 have hkd:m.g7<40/\z3 m.i0=true:=by
  rcases hm.kd with q|q|q|q|q|q|q
  ·omega
  ·omega
  ·omega
  ·exact ⟨q.2.2.1,q.2.2.2.1⟩
  all_goals exact absurd q.1 (by omega)
 have hkl:=h.kl;unfold a1X;cases h1:decide (m.g7<(n.a0.length:Int))
 ·cases h2:decide (m.g7>(n.a0.length:Int))
  ·simp only [decide_eq_false_iff_not] at h1 h2;exact c9F h hkd.2 (by omega)
  ·refine ⟨h,rfl,fun x hx => ?_,by simp⟩;rw [e9Q.1 hx];exact a9p hm .need (by simp only;omega)
 ·exact .same h
theorem e5G{n:j6}(h:NI n){m:j8}(hm:MI m)(hk:m.a8=7):P7 n (a1k n m):=by
 have hkd:z3 m.i0=true/\m.i0.i8=false:=by
  rcases hm.kd with q|q|q|q|q|q|q
  ·omega
  ·omega
  ·omega
  ·omega
  ·omega
  ·exact ⟨q.2.2.2.1,q.2.2.2.2.1⟩
  ·omega
 unfold a1k;cases hc:n.d6==0||(decide (4<=n.d9.length)||M2 n.a0 m.i0.a5)
 ·simp only [cond_false];simp only [f0E,decide_eq_false_iff_not] at hc;refine P7.to (n:=n) (n':={n with d9:=n.d9++[m.i0]}) rfl (a9y (h.queue (by simp;omega) ?_));intro e he;rcases List.mem_append.1 he with q|q
  ·exact h.qs e q
  ·rw [e9Q.1 q];exact hkd
 ·exact .same h
theorem c7p{n:j6}(h:NI n){m:j8}(hm:MI m):∀x∈a3h n m,MI x:=by
 intro x hx;unfold a3h at hx;obtain ⟨l,hl,hx⟩:=f0t.1 hx;obtain ⟨j,hj,rfl⟩:=List.mem_map.1 hl;have hkl:=h.kl;unfold a0V at hx;cases hg:n.a0[m.g7.toNat+j]? with
 | none=>rw [hg] at hx;cases hx
 | some e =>
  rw [hg] at hx;have hlt:=(e9P.1 hg).1;rw [e9Q.1 hx];exact a9p hm (.chosen (by omega) (h.ks e (e9W hg))) (by simp only;omega)
theorem b0F{n:j6}(h:NI n){m:j8}(hm:MI m):a6u n (U4 n m):=by
 unfold U4;by_cases k1:m.a8=1
 ·rw [show (m.a8==1)=true by simpa using k1];exact (c8A h hm k1).three
 rw [show (m.a8==1)=false by simpa using k1];by_cases k2:m.a8=2
 ·rw [show (m.a8==2)=true by simpa using k2];exact (c0t h hm k2).three
 rw [show (m.a8==2)=false by simpa using k2];by_cases k3:m.a8=3
 ·rw [show (m.a8==3)=true by simpa using k3];exact (d0V h hm k3).three
 rw [show (m.a8==3)=false by simpa using k3];by_cases k4:m.a8=4
 ·rw [show (m.a8==4)=true by simpa using k4];exact d1B h hm
 rw [show (m.a8==4)=false by simpa using k4];by_cases k5:m.a8=5
 ·rw [show (m.a8==5)=true by simpa using k5];exact c6Q h hm k5
 rw [show (m.a8==5)=false by simpa using k5];by_cases k6:m.a8=6
 ·rw [show (m.a8==6)=true by simpa using k6];simp only [cond_true,cond_false];cases hp:G6 n.Acc m.a7 with
  | none=>exact ⟨h.yield _,a6o _ _,by simp,by simp⟩
  | some a=>exact ⟨(h.promise hp).yield _,a6o _ _,by simp,by simp⟩
 rw [show (m.a8==6)=false by simpa using k6];by_cases k7:m.a8=7
 ·rw [show (m.a8==7)=true by simpa using k7];exact (e5G h hm k7).three
 rw [show (m.a8==7)=false by simpa using k7];cases m.a8==8
 ·exact .same h
 ·exact ⟨h,rfl,c7p h hm,by simp⟩
structure e2i(n x:j6):Prop where
 id:x.Id=n.Id
 known:x.a0=n.a0
 seq:x.Seq=n.Seq
 busy:x.i7=n.i7
 prog:x.i5=n.i5
 want:x.b7=n.b7
theorem b55(n:j6):e2i n (L2 n).1:=by
 unfold L2;cases n.d6 != 2||decide (40<=n.a0.length)
 ·simp only [cond_false];obtain ⟨q,hq,_⟩:=b0e n;cases hx:a0j n with
  | mk x o =>
  rw [hx] at hq;have hq:x={n with d9:=q}:=hq;subst hq;cases o with
  | none=>exact ⟨rfl,rfl,rfl,rfl,rfl,rfl⟩
  | some e =>
   simp only [a5u];cases J3 n.Acc n.a7 (n.a0.length:Int) e<;>exact ⟨rfl,rfl,rfl,rfl,rfl,rfl⟩
 ·exact ⟨rfl,rfl,rfl,rfl,rfl,rfl⟩
def a19(n:j6):List q9:=(z4 n.a0).1.i4
theorem b6m{n:j6}(h:NI n):F6 (a19 n)=true:=by
 obtain ⟨a,b⟩:=a34 h.list;have:=(a3w a b n.a0.length (f0d _)).1.boxes;rwa [f0f] at this
theorem e07{n:j6}(h:NI n):b6v n=some (z4 n.a0).1:=by
 unfold b6v;rw [a9T h.ok,e9J,a0Q.2 h];simp only [e9O,cond_false];rw [e4g (okEntries.f h.ok.2.2.1) h.list];rfl
theorem e0h{l:List q9}{p:List o9}(h:(D4 l p).Code≠3):D5 p=true:=by
 unfold D4 at h;cases hp:D5 p
 ·rw [hp,Bool.and_false] at h;exact absurd rfl h
 ·rfl
def N9(n:j6)(prog:List o9):j6:={n with Seq:=n.Seq+1,i7:=true,i5:=prog,b7:=⟨false,⟨n.Id,n.Seq+1⟩,D4 (a19 n) prog⟩}
def J5(n:j6)(prog:List o9):Bool := !(n.i7||(n.Seq==1000||(D4 (a19 n) prog).Code==3))
theorem b4y{n:j6}{prog:List o9}:J5 n prog=true↔n.i7=false/\n.Seq≠1000/\(D4 (a19 n) prog).Code≠3:=by
 unfold J5;simp
theorem b2t{n:j6}(h:NI n){prog:List o9}(hp:t8 prog)(hc:J5 n prog=true):z3 (N9 n prog).b7=true/\D5 prog=true:=by
 obtain ⟨h1,h2,h3⟩:=b4y.1 hc;have hr:=(c6o (b6m h) hp).ok;have hs:=h.sq;have hid:=h.id;refine ⟨?_,e0h h3⟩;unfold z3 N9;simp only [cond_false,e9N,I4,hr,true_and,bne_iff_ne,ne_eq];exact ⟨⟨hid,by omega⟩,h3⟩
theorem NI.asked{n:j6}(h:NI n){prog:List o9}(hp:t8 prog)(hc:J5 n prog=true):NI (N9 n prog):=by
 obtain ⟨h1,h2,h3⟩:=b4y.1 hc;obtain ⟨h4,h5⟩:=b2t h hp hc;have hs:=h.sq;exact ⟨h.id,h.pr,h.vl,h.vs,h.kl,h.ks,by show 0<=n.Seq+1/\n.Seq+1<=1000;omega,h.ql,h.qs,h.ld,.inl ⟨rfl,h5,h4,rfl,rfl⟩⟩
theorem a2f(n:j6)(prog:List o9):J4 n prog=bif J5 n prog then (bif n.d6==2 then L2 (N9 n prog) else (N9 n prog,bif n.d6==0 then H2 n.Id ⟨7,0,0,0,0,(N9 n prog).b7,[]⟩ else [])) else (n,[]):=by
 unfold J4 J5 N9 a19;cases n.i7||(n.Seq==1000||(D4 (z4 n.a0).1.i4 prog).Code==3)<;>rfl
theorem e7E{n:j6}(h:NI n){prog:List o9}(hp:z7 32 okT prog):b3I n prog=some ((J4 n prog).1,(J4 n prog).2,[]):=by
 have hf:t8 prog:=hp.fits (by decide);have hs:=h.sq;unfold b3I;rw [a9T h.ok,e9J,a0Q.2 h,b2x h.ok,e07 h,a2f];simp only [e9O,cond_false,e9J];rw [show (z4 n.a0).1.i4=a19 n from rfl,d2G (a4l (b6m h)) hf,e9J];cases hb:n.i7
 ·cases hq:n.Seq==1000
  ·cases hc:(D4 (a19 n) prog).Code==3
   ·have hca:J5 n prog=true:=by unfold J5;rw [hb,hq,hc];rfl
    have hn:=h.asked hf hca;rw [hca];simp only [cond_true,cond_false];rw [t9 (by have:=hp.1;simp;omega),B9 (by omega) (by omega)];cases h2:n.d6==2
    ·cases h0:n.d6==0
     ·rfl
     ·simp only [cond_false,cond_true];rw [a6D h.id (show a0b ⟨7,0,0,0,0,⟨false,⟨n.Id,n.Seq+1⟩,D4 (a19 n) prog⟩,[]⟩ from a78 (z8 (by omega)) Z0 Z0 (a2N (b2t h hf hca).1) R9)];rfl
    ·simp only [cond_true];rw [show (⟨n.Id,n.Acc,n.a0,n.Seq+1,n.d6,n.a7,n.c8,n.g9,n.c9,n.a6,true,[]++prog,⟨false,⟨n.Id,n.Seq+1⟩,D4 (a19 n) prog⟩,n.d9⟩:j6)=N9 n prog from rfl,b2U hn.ok hn.id,e9J]
   ·have hca:J5 n prog=false:=by unfold J5;rw [hb,hq,hc];rfl
    rw [hca];rfl
  ·have hca:J5 n prog=false:=by unfold J5;rw [hb,hq];rfl
   rw [hca];rfl
 ·have hca:J5 n prog=false:=by unfold J5;rw [hb];rfl
  rw [hca];rfl
theorem a80{n:j6}(h:NI n){prog:List o9}(hp:t8 prog):P7 n (J4 n prog):=by
 rw [a2f];cases hc:J5 n prog
 ·exact .same h
 ·have hn:=h.asked hp hc;simp only [cond_true];cases n.d6==2
  ·refine ⟨hn,rfl,fun x hx => ?_⟩;simp only [cond_false] at hx;cases h0:n.d6==0
   ·rw [h0] at hx;cases hx
   ·rw [h0] at hx;exact a47 h.id (.ask (b2t h hp hc).1 rfl) (by simp) x hx
  ·exact P7.to (n:=n) (n':=N9 n prog) rfl (a9y hn)
theorem b4d{b who:Int}(hb:0<=b/\b<=3000)(hw:0<=who/\who<=2):L6 b who=-1\/(b<L6 b who/\L6 b who<=b+3/\L6 b who<=3000/\e99 (L6 b who) 3=who):=by
 unfold L6;cases h1:decide (b+1<=3000)&&(e99 (b+1) 3==who)
 ·cases h2:decide (b+2<=3000)&&(e99 (b+2) 3==who)
  ·cases h3:decide (b+3<=3000)&&(e99 (b+3) 3==who)
   ·exact .inl rfl
   ·simp only [e9N,decide_eq_true_eq,beq_iff_eq] at h3;exact .inr ⟨by simp only [cond_true,cond_false];omega,by simp only [cond_true,cond_false];omega,h3.1,h3.2⟩
  ·simp only [e9N,decide_eq_true_eq,beq_iff_eq] at h2;exact .inr ⟨by simp only [cond_true,cond_false];omega,by simp only [cond_true,cond_false];omega,h2.1,h2.2⟩
 ·simp only [e9N,decide_eq_true_eq,beq_iff_eq] at h1;exact .inr ⟨by simp only [cond_true,cond_false];omega,by simp only [cond_true,cond_false];omega,h1.1,h1.2⟩
theorem e3B{n:j6}(h:NI n):b4w n=some (V3 n):=by
 unfold b4w V3;rw [a9T h.ok,e9J,a0Q.2 h,b2x h.ok];simp only [e9O,cond_false,e9J];rw [d62 h.pr h.id,e9J];cases hd:decide (L6 n.Acc.g8 n.Id<0)
 ·simp only [decide_eq_false_iff_not] at hd;rcases b4d h.pr h.id with q|⟨q1,q2,q3,q4⟩
  ·omega
  ·have hpr:=h.pr;have hkl:=h.kl;obtain ⟨y,hy⟩:=c1Y h.id;simp only [cond_false,b0J,e9J,b8j,b7Y (a:=n.Acc) (show 1<=L6 n.Acc.g8 n.Id by omega) q3 (by omega),hy,e8H h.ok.2.1.2];rw [t9 (by omega),t9 trivial,a6D h.id (a78 (z8 (by omega)) (z8 (by omega)) (z8 (by omega)) a0N R9)];rfl
 ·rfl
theorem b0n{n:j6}(h:NI n):P7 n (V3 n):=by
 unfold V3;cases hd:decide (L6 n.Acc.g8 n.Id<0)
 ·simp only [decide_eq_false_iff_not] at hd;have hpr:=h.pr;have hkl:=h.kl;rcases b4d h.pr h.id with q|⟨q1,q2,q3,q4⟩
  ·omega
  ·obtain ⟨m1,m2⟩:=c2N h.id;refine ⟨⟨h.id,⟨by simp only [cond_false];omega,q3⟩,h.vl,fun v hv=>⟨(h.vs v hv).1,f0q (h.vs v hv).2 (Int.le_of_lt q1)⟩,h.kl,h.ks,h.sq,h.ql,h.qs,.inr (.inl ⟨rfl,⟨by simp only [cond_false];omega,q3,q4,f0b _,h.vl,fun v hv=>(h.vs v hv).1⟩,m1,m2,rfl,rfl⟩),h.wt⟩,rfl,?_⟩;exact a47 h.id (.one (.inl rfl) ⟨by omega,q3⟩) (by simp only;omega)
 ·exact .same h
theorem c5v{k b s:Int}(hk:0<=k/\k<=8)(hb:0<=b/\b<=3000)(hs:0<=s/\s<=40):a0b ⟨k,0,0,b,s,zE,[]⟩:=a78 (z8 (by omega)) (z8 (by omega)) (z8 (by omega)) a0N R9
theorem d8S{n:j6}(h:NI n):b6S n=some ((U0 n).1,(U0 n).2,[]):=by
 have hkl:=h.kl;have hb:=h.ld.bal;have l1:=a0i n.Id ⟨8,0,0,0,(n.a0.length:Int),zE,[]⟩;unfold b6S U0;rw [a9T h.ok,e9J,a0Q.2 h,b2x h.ok];simp only [e9O,cond_false,e9J];rw [a6D h.id (c5v (by omega) (by omega) (by omega)),e9J];cases h1:n.d6==1
 ·cases h2:n.d6==2
  ·cases h3:n.d6==3
   ·cases hbz:n.i7
    ·rfl
    ·simp only [cond_true,cond_false];have l2:=a0i n.Id ⟨7,0,0,0,0,n.b7,[]⟩;have hw:E3 n.b7:=h.ok.2.2.2.2.2.2.2.2.2.2.2.1;rw [a6D h.id (a78 (z8 (by omega)) Z0 Z0 hw R9),e9J,t9 (by omega)];rfl
   ·simp only [cond_true,cond_false];have l2:=a0i n.Id ⟨3,0,0,n.a7,(n.a0.length:Int),n.c9,[]⟩;rw [a6D h.id (a78 (z8 (by omega)) (z8 (by omega)) (z8 (by omega)) h.ld.from3.2.2 R9),e9J,t9 (by omega)];rfl
  ·simp only [cond_true,cond_false];have l2:=a8k n;rw [b2U h.ok h.id,e9J,t9 (by omega)];rfl
 ·simp only [cond_true,cond_false];have l2:=a0i n.Id ⟨1,0,0,n.a7,(n.a0.length:Int),zE,[]⟩;rw [a6D h.id (c5v (by omega) (by omega) (by omega)),e9J,t9 (by omega)];rfl
theorem b0j{n:j6}(h:NI n):P7 n (U0 n):=by
 have hkl:=h.kl;have hb:=h.ld.bal;have a1:∀x∈H2 n.Id ⟨8,0,0,0,(n.a0.length:Int),zE,[]⟩,MI x:=a47 h.id .need (by simp only;omega)
 have M1:∀{l:List j8},(∀x∈l,MI x)->∀x∈H2 n.Id ⟨8,0,0,0,(n.a0.length:Int),zE,[]⟩++l,MI x:=by
  intro l hl x hx;rcases List.mem_append.1 hx with q|q
  ·exact a1 x q
  ·exact hl x q
 unfold U0;by_cases h1:n.d6=1
 ·rw [show (n.d6==1)=true by simpa using h1];refine ⟨h,rfl,M1 (a47 h.id (.one (.inl rfl) ?_) (by simp only;omega))⟩;rcases h.ld with q|q|q|q
  ·omega
  ·exact ⟨q.2.1.b1,q.2.1.b2⟩
  all_goals exact absurd q.1 (by omega)
 rw [show (n.d6==1)=false by simpa using h1];by_cases h2:n.d6=2
 ·rw [show (n.d6==2)=true by simpa using h2];have:=a9y h;exact ⟨this.ni,this.id,M1 this.ms⟩
 rw [show (n.d6==2)=false by simpa using h2];by_cases h3:n.d6=3
 ·rw [show (n.d6==3)=true by simpa using h3];rcases h.ld with q|q|q|q
  ·omega
  ·omega
  ·omega
  ·exact ⟨h,rfl,M1 (a47 h.id (.accept ⟨q.2.1.b1,q.2.1.b2⟩ (by omega) q.2.2.2.1) (by simp only;omega))⟩
 rw [show (n.d6==3)=false by simpa using h3];cases hbz:n.i7
 ·exact ⟨h,rfl,a1⟩
 ·rcases h.wt with q|q
  ·exact ⟨h,rfl,M1 (a47 h.id (.ask q.2.2.1 q.2.2.2.1) (by simp))⟩
  ·rw [hbz] at q;cases q.1
theorem d4r{n:j6}(h:NI n):b7M n=some (a0J n):=by
 unfold b7M;rw [a9T h.ok,e9J,a0Q.2 h,b2x h.ok];rfl
theorem NI.open{id:Int}(h:0<=id/\id<=2):NI (C0 id) :=
 ⟨h,⟨by simp [C0],by simp [C0]⟩,by simp [C0],by simp [C0],by simp [C0],by simp [C0],⟨by simp [C0],by simp [C0]⟩,by simp [C0],by simp [C0],.inl ⟨rfl,rfl,rfl,rfl,rfl,rfl⟩,.inr ⟨rfl,rfl,rfl⟩⟩
theorem NI.fall{n:j6}(h:NI n):NI (a0J n) :=
 ⟨h.id,h.pr,h.vl,h.vs,h.kl,h.ks,h.sq,by simp [a0J,C0],by simp [a0J,C0],.inl ⟨rfl,rfl,rfl,rfl,rfl,rfl⟩,.inr ⟨rfl,rfl,rfl⟩⟩
theorem c9a{l:List j8}(hl:t8 l)(ho:∀m∈l,a0b m):∀(d k:Nat) (net:List j8),l.length-k=d->p8 (fun s:(List j8)×Int=>a2F l s.1 s.2) (net,(k:Int))=some (.brk (net++(l.drop k).take (40-net.length)))
 | 0,k,net,hd=>by
  rw [e91 (by omega)];refine (C6 (b:=net) ?_).trans (by simp);show a2F l net (k:Int)=_
  unfold a2F;rw [show decide ((k:Int)<(l.length:Int))=false by simp;omega];rfl
 | d+1,k,net,hd=>by
  have hlt:k<l.length:=by omega
  by_cases hn:net.length<40
  ·have hb:a2F l net (k:Int)=some (.nxt (net++[l[k]],((k+1:Nat):Int))):=by
    unfold a2F;rw [x8 _ k hlt,show decide ((net.length:Int)<40)=true by simp;omega,cond_true,cond_true,u0 hlt,e9J,b4a (ho _ (e9M hlt)),e9J,t9 (by omega),F3 hl hlt]
   rw [E1 (body:=fun s:(List j8)×Int=>a2F l s.1 s.2) (s:=(net,(k:Int))) hb,c9a hl ho d (k+1) _ (by omega),e97 hlt];rw [show 40-net.length=(40-(net++[l[k]]).length)+1 by simp;omega,f1d,e9Y];rfl
  ·refine (C6 (b:=net) ?_).trans (by rw [show 40-net.length=0 by omega];simp);show a2F l net (k:Int)=_
   unfold a2F;rw [x8 _ k hlt,show decide ((net.length:Int)<40)=false by simp;omega];rfl
theorem a6s(w:m6){l:List j8}(hl:t8 l)(ho:∀m∈l,a0b m):a2X w l=some (a0l w l):=by
 unfold a2X;rw [show p8 (fun s:(List j8)×Int=>a2F l s.1 s.2) (w.b9,0)=_ from c9a hl ho l.length 0 w.b9 rfl];rfl
theorem d3i{l:List m9}(hl:t8 l):∀(d k:Nat) (o:List m9),l.length-k=d->p8 (fun s:(List m9)×Int=>a2o l s.1 s.2) (o,(k:Int))=some (.brk (o++(l.drop k).take (60-o.length)))
 | 0,k,o,hd=>by
  rw [e91 (by omega)];refine (C6 (b:=o) ?_).trans (by simp);show a2o l o (k:Int)=_
  unfold a2o;rw [show decide ((k:Int)<(l.length:Int))=false by simp;omega];rfl
 | d+1,k,o,hd=>by
  have hlt:k<l.length:=by omega
  by_cases hn:o.length<60
  ·have hb:a2o l o (k:Int)=some (.nxt (o++[l[k]],((k+1:Nat):Int))):=by
    unfold a2o;rw [x8 _ k hlt,show decide ((o.length:Int)<60)=true by simp;omega,cond_true,cond_true,u0 hlt,e9J,t9 (by omega),F3 hl hlt]
   rw [E1 (body:=fun s:(List m9)×Int=>a2o l s.1 s.2) (s:=(o,(k:Int))) hb,d3i hl d (k+1) _ (by omega),e97 hlt];rw [show 60-o.length=(60-(o++[l[k]]).length)+1 by simp;omega,f1d,e9Y];rfl
  ·refine (C6 (b:=o) ?_).trans (by rw [show 60-o.length=0 by omega];simp);show a2o l o (k:Int)=_
   unfold a2o;rw [x8 _ k hlt,show decide ((o.length:Int)<60)=false by simp;omega];rfl
theorem a72(w:m6){l:List m9}(hl:t8 l):a3z w l=some (a8t w l):=by
 unfold a3z;rw [show p8 (fun s:(List m9)×Int=>a2o l s.1 s.2) (w.Told,0)=_ from d3i hl l.length 0 w.Told rfl];rfl
theorem a2K(w:m6):a8t w []=w:=by
 unfold a8t;simp
theorem c1I(w:m6):a0l w []=w:=by
 unfold a0l;simp
theorem e5R{w:m6}{k:Nat}(hk:k<w.b9.length)(hl:w.b9.length<=40):b1i w (k:Int)=some (a2E w (k:Int)):=by
 unfold b1i a2E;rw [t9 (by omega),t9 (by simp;omega),B9 (by omega) (by omega),t9 (by omega),t9 (by simp;omega)];simp only [f0r,f00,f0N,f1v,e92,f0v,show ((k:Int)+1).toNat=k+1 by omega];rw [f0g (l:=w.b9.drop (k+1)) (by simp)]
theorem a3N{w:m6}(h:WI w){i:Nat}(hi:i<3):∃n,w.a9[i]?=some n/\H4 w (i:Int)=n/\n.Id=(i:Int)/\NI n/\i<w.a9.length:=by
 have hl:=h.nl;have hg:=e9K (l:=w.a9) (i:=i) (by omega);obtain ⟨h1,h2⟩:=h.ns i _ hg;refine ⟨_,hg,?_,h1,h2,by omega⟩;unfold H4;rw [e92,e9X,hg];rfl
theorem WI.put{w:m6}(h:WI w){i:Nat}{n:j6}(hid:n.Id=(i:Int))(hn:NI n):WI (M7 w (i:Int) n):=by
 refine ⟨by simp [M7,h.nl],?_,h.ml,h.ms,h.al,h.aq,h.tl,h.ts⟩;intro j m hm;simp only [M7,e92] at hm;by_cases q:i=j
 ·subst q;have hlt:=(e9P.1 hm).1;rw [f0O] at hlt;rw [f0F hlt] at hm;injection hm with hm;subst hm;exact ⟨hid,hn⟩
 ·rw [e90 q] at hm;exact h.ns j m hm
theorem WI.send{w:m6}(h:WI w){l:List j8}(hl:∀m∈l,MI m):WI (a0l w l):=by
 have:=h.ml;refine ⟨h.nl,h.ns,by simp only [a0l,e9T,e96];omega,?_,h.al,h.aq,h.tl,h.ts⟩;intro m hm;rcases List.mem_append.1 hm with q|q
 ·exact h.ms m q
 ·exact hl m (f0l q)
theorem WI.tell{w:m6}(h:WI w){l:List m9}(hl:∀t∈l,Q7 t=true):WI (a8t w l):=by
 have:=h.tl;refine ⟨h.nl,h.ns,h.ml,h.ms,h.al,h.aq,by simp only [a8t,e9T,e96];omega,?_⟩;intro m hm;rcases List.mem_append.1 hm with q|q
 ·exact h.ts m q
 ·exact hl m (f0l q)
theorem WI.off{w:m6}(h:WI w)(i:Int):WI (a2E w i):=by
 have:=h.ml;refine ⟨h.nl,h.ns,by simp only [a2E,e9T,e96,List.length_drop];omega,?_,h.al,h.aq,h.tl,h.ts⟩;intro m hm;rcases List.mem_append.1 hm with q|q
 ·exact h.ms m (f0l q)
 ·exact h.ms m (f0u q)
theorem a9H{l:List j8}(h:l.length<=100):t8 l:=by unfold t8;omega
theorem b9E(n:j6)(p:List o9):(J4 n p).2.length<=3:=by
 rw [a2f];cases J5 n p
 ·simp
 ·cases n.d6==2
  ·cases n.d6==0
   ·simp
   ·exact a0i _ _
  ·exact a8k _
theorem MI.okl{l:List j8}(h:∀m∈l,MI m):∀m∈l,a0b m:=fun m hm=>(h m hm).ok
theorem b9O(n:j6)(p:List o9):decide ((J4 n p).1.Seq>n.Seq)=J5 n p:=by
 rw [a2f];cases J5 n p
 ·simp
 ·simp only [cond_true];cases n.d6==2
  ·simp [N9];omega
  ·have:=(b55 (N9 n p)).seq;simp only [cond_true,this];simp [N9];omega
theorem b7p{n:j6}{p:List o9}(h:J5 n p=true):(J4 n p).1.b7=(N9 n p).b7:=by
 rw [a2f,h];simp only [cond_true];cases n.d6==2
 ·rfl
 ·exact (b55 (N9 n p)).want
def d7C(w:m6)(a:v5):m6:={w with d7:=w.d7++[a]}
theorem WI.addAsked{w:m6}(h:WI w){a:v5}(hl:w.d7.length<60)(ha:W4 a=true):WI (d7C w a):=by
 refine ⟨h.nl,h.ns,h.ml,h.ms,by simp only [d7C,e9T,f0y];omega,?_,h.tl,h.ts⟩;intro x hx;rcases List.mem_append.1 hx with q|q
 ·exact h.aq x q
 ·rw [e9Q.1 q];exact ha
theorem d7y{w:m6}(h:WI w){i:Nat}(hi:i<3){p:List o9}(hp:z7 32 okT p):b42 w (i:Int) p=some (a3c w (i:Int) p)/\WI (a3c w (i:Int) p):=by
 obtain ⟨n,hg,hn,hid,hni,hlt⟩:=a3N h hi;have hf:t8 p:=hp.fits (by decide);have hr:=a80 hni hf;have hln:=b9E n p;have hms:=MI.okl hr.ms;have hal:=h.al;unfold b42 a3c;rw [hn,show decide ((w.d7.length:Int)>=60)=decide (60<=w.d7.length) by simp;omega,a7W,hg,e9J,e7E hni hp,e9J];cases hd:decide (60<=w.d7.length)
 ·simp only [cond_false];simp only [decide_eq_false_iff_not] at hd;rw [b9O];cases hc:J5 n p
  ·simp only [cond_false];rw [a6s _ (a9H (by omega)) hms,e9J,a72 _ (by simp [t8]),a2K];exact ⟨rfl,(h.put (hr.id.trans hid) hr.ni).send hr.ms⟩
  ·simp only [cond_true];rw [t9 (by have:=hp.1;simp;omega),t9 (by omega),a6s _ (a9H (by omega)) hms,e9J,a72 _ (by simp [t8]),a2K];refine ⟨rfl,WI.send (w:=M7 (d7C w ⟨(J4 n p).1.b7.a5,p⟩) (i:Int) (J4 n p).1) (WI.put (w:=d7C w ⟨(J4 n p).1.b7.a5,p⟩) (h.addAsked (by omega) ?_) (hr.id.trans hid) hr.ni) hr.ms⟩;rw [b7p hc];obtain ⟨w1,w2⟩:=b2t hni hf hc;obtain ⟨c1,c2,c3⟩:=b4y.1 hc;unfold W4;have:=hni.id;have:=hni.sq;simp only [e9N,I4,w2,and_true];show (0<=n.Id/\n.Id<=2)/\1<=n.Seq+1/\n.Seq+1<=1000
   omega
 ·exact ⟨rfl,h⟩
theorem b7z{n:j6}(h:NI n)(m:j8):(U4 n m).2.1.length<=60/\(U4 n m).2.2.length<=1:=by
 have hkl:=h.kl;have al:∀n:j6,(S9 n).2.length<=1:=fun n=>by
  rcases a9P n with q|⟨k,_,_,q⟩<;>rw [q]<;>simp
 have ll:∀(n:j6) (e:m4),(U8 n e).2.1.length<=3/\(U8 n e).2.2.length<=1:=fun n e=>⟨a8k _,al _⟩
 have nl:(a3h n m).length<=40:=by
  unfold a3h;have:∀d k:Nat,((e9U d).map fun j=>a0V n m (k+j)).flatten.length<=d:=by
   intro d k;rw [List.length_flatten,f1k];have hs:∀(l:List Nat),((l.map (List.length ∘ fun j=>a0V n m (k+j))).sum)<=l.length:=by
    intro l;induction l with
    | nil=>simp
    | cons x l ih =>
     simp only [f0e,List.sum_cons,f0w,Function.comp];have:(a0V n m (k+x)).length<=1:=by
      unfold a0V;cases n.a0[k+x]?<;>simp
     omega
   have:=hs (e9U d);rwa [List.length_range] at this
  have:=this (n.a0.length-m.g7.toNat) m.g7.toNat;omega
 unfold U4;cases m.a8==1
 ·cases m.a8==2
  ·cases m.a8==3
   ·cases m.a8==4
    ·cases m.a8==5
     ·cases m.a8==6
      ·cases m.a8==7
       ·cases m.a8==8
        ·exact ⟨by simp,by simp⟩
        ·exact ⟨by simp only [cond_true,cond_false];omega,by simp⟩
       ·refine ⟨?_,by simp⟩;simp only [cond_true,cond_false,a1k];cases n.d6==0||(decide (4<=n.d9.length)||M2 n.a0 m.i0.a5)
        ·exact Nat.le_trans (a8k _) (by omega)
        ·simp
      ·exact ⟨by simp,by simp⟩
     ·simp only [cond_true,cond_false,a1X];cases decide (m.g7<(n.a0.length:Int))
      ·cases decide (m.g7>(n.a0.length:Int))
       ·have:=ll n m.i0;exact ⟨by simp only [cond_false];omega,by simp only [cond_false];omega⟩
       ·exact ⟨by simp,by simp⟩
      ·exact ⟨by simp,by simp⟩
    ·simp only [cond_true,cond_false,a1V];cases n.d6 != 3||(m.a7 != n.a7||m.g7 != (n.a0.length:Int))
     ·cases M1 (n.a6.set m.c8.toNat true)
      ·exact ⟨by simp,by simp⟩
      ·have h1:=ll {n with a6:=n.a6.set m.c8.toNat true} n.c9;have h2:=a0i n.Id ⟨5,0,0,0,(n.a0.length:Int),n.c9,[]⟩;exact ⟨by simp only [cond_true,cond_false,e9T];omega,by simp only [cond_true,cond_false];omega⟩
     ·exact ⟨by simp,by simp⟩
   ·refine ⟨?_,by simp⟩;simp only [cond_true,cond_false,a1m];cases J3 n.Acc m.a7 m.g7 m.i0<;>simp
  ·refine ⟨?_,by simp⟩;simp only [cond_true,cond_false,a1B];cases n.d6 != 1||m.a7 != n.a7
   ·cases M1 (n.c8.set m.c8.toNat true)
    ·simp
    ·exact Nat.le_trans (a8k _) (by omega)
   ·simp
 ·refine ⟨?_,by simp⟩;simp only [cond_true,a1p];cases G6 n.Acc m.a7<;>simp
theorem d8G{w:m6}(h:WI w)(e:p7):a8M w e=some (a0F w e)/\WI (a0F w e):=by
 have hml:=h.ml;unfold a8M a0F;by_cases h0:e.A<0
 ·rw [show decide (e.A<0)=true by simpa using h0,show decide (0<=e.A)=false by simp;omega];exact ⟨rfl,h⟩
 ·obtain ⟨k,hk⟩:∃k:Nat,e.A=(k:Int):=⟨e.A.toNat,by omega⟩
  rw [hk,show decide ((k:Int)<0)=false by simp,show decide (0<=(k:Int))=true by simp,e92];simp only [cond_true,cond_false];by_cases hl:k<w.b9.length
  ·rw [show decide ((k:Int)>=(w.b9.length:Int))=false by simp;omega,u0 hl,e9K hl];have hm:=h.ms _ (e9M hl);generalize w.b9[k]=m at hm;simp only [cond_false,e9J,b4a hm.ok];cases e.a8==4
   ·simp only [cond_false];rw [e5R hl hml];cases e.a8==3
    ·simp only [cond_false,e9J];have ho:=h.off (k:Int);have ht:=hm.to;obtain ⟨t,htt⟩:∃t:Nat,m.To=(t:Int):=⟨m.To.toNat,by omega⟩
     obtain ⟨n,hg,hn,hid,hni,hlt⟩:=a3N ho (i:=t) (by omega);have hn':H4 w (t:Int)=n:=hn;have hr:=b0F hni hm;obtain ⟨l1,l2⟩:=b7z hni m;rw [htt,a7W,hg,e9J,d4L hni hm,e9J,hn'];rw [a6s _ (a9H (by omega)) (MI.okl hr.ms),e9J,a72 _ (by unfold t8;omega)];exact ⟨rfl,((ho.put (hr.id.trans hid) hr.ni).send hr.ms).tell hr.ts⟩
    ·exact ⟨rfl,h.off _⟩
   ·simp only [cond_true];have hs:∀x∈[m],MI x:=fun x hx=>by rw [e9Q.1 hx];exact hm
    rw [a6s _ (a9H (by simp)) (MI.okl hs)];exact ⟨rfl,h.send hs⟩
  ·rw [show decide ((k:Int)>=(w.b9.length:Int))=true by simp;omega,f0c (by omega)];exact ⟨rfl,h⟩
def K6(e:p7):Prop:=z7 32 okT e.i5
theorem b9I(n:j6):(U0 n).2.length<=6:=by
 have l0:=a0i n.Id ⟨8,0,0,0,(n.a0.length:Int),zE,[]⟩;unfold U0;cases n.d6==1
 ·cases n.d6==2
  ·cases n.d6==3
   ·cases n.i7
    ·simp only [cond_false];omega
    ·have:=a0i n.Id ⟨7,0,0,0,0,n.b7,[]⟩;simp only [cond_true,cond_false,e9T];omega
   ·have:=a0i n.Id ⟨3,0,0,n.a7,(n.a0.length:Int),n.c9,[]⟩;simp only [cond_true,cond_false,e9T];omega
  ·have:=a8k n;simp only [cond_true,cond_false,e9T];omega
 ·have:=a0i n.Id ⟨1,0,0,n.a7,(n.a0.length:Int),zE,[]⟩;simp only [cond_true,e9T];omega
theorem b61(n:j6):(V3 n).2.length<=3:=by
 unfold V3;cases decide (L6 n.Acc.g8 n.Id<0)
 ·exact a0i _ _
 ·simp
theorem b84{w:m6}{i:Nat}{n:j6}(h:w.a9[i]?=some n):M7 w (i:Int) n=w:=by
 unfold M7;rw [e92];obtain ⟨hi,rfl⟩:=e9P.1 h;rw [f1n]
theorem e2u{w:m6}(h:WI w){i:Nat}(hi:i<3){p:List o9}(hp:z7 32 okT p):WI (a3c w (i:Int) p):=by
 obtain ⟨n,hg,hn,hid,hni,hlt⟩:=a3N h hi;have hf:t8 p:=hp.fits (by decide);have hr:=a80 hni hf;unfold a3c;rw [hn];cases hd:decide (60<=w.d7.length)
 ·simp only [cond_false];simp only [decide_eq_false_iff_not] at hd;rw [b9O];cases hc:J5 n p
  ·simp only [cond_false];exact (h.put (hr.id.trans hid) hr.ni).send hr.ms
  ·simp only [cond_true];refine WI.send (w:=M7 (d7C w ⟨(J4 n p).1.b7.a5,p⟩) (i:Int) (J4 n p).1) (WI.put (w:=d7C w ⟨(J4 n p).1.b7.a5,p⟩) (h.addAsked (by omega) ?_) (hr.id.trans hid) hr.ni) hr.ms;rw [b7p hc];obtain ⟨w1,w2⟩:=b2t hni hf hc;obtain ⟨c1,c2,c3⟩:=b4y.1 hc;unfold W4;have:=hni.id;have:=hni.sq;simp only [e9N,I4,w2,and_true];show (0<=n.Id/\n.Id<=2)/\1<=n.Seq+1/\n.Seq+1<=1000
   omega
 ·exact h
theorem d7z{w:m6}(h:WI w)(e:p7):WI (a0F w e):=by
 unfold a0F;by_cases h0:e.A<0
 ·rw [show decide (0<=e.A)=false by simp;omega];exact h
 ·obtain ⟨k,hk⟩:∃k:Nat,e.A=(k:Int):=⟨e.A.toNat,by omega⟩
  rw [hk,show decide (0<=(k:Int))=true by simp,e92];simp only [cond_true];by_cases hl:k<w.b9.length
  ·rw [e9K hl];have hm:=h.ms _ (e9M hl);generalize w.b9[k]=m at hm;simp only;cases e.a8==4
   ·simp only [cond_false];cases e.a8==3
    ·simp only [cond_false];have ho:=h.off (k:Int);have ht:=hm.to;obtain ⟨t,htt⟩:∃t:Nat,m.To=(t:Int):=⟨m.To.toNat,by omega⟩
     obtain ⟨n,hg,hn,hid,hni,hlt⟩:=a3N ho (i:=t) (by omega);have hn':H4 w (t:Int)=n:=hn;have hr:=b0F hni hm;rw [htt,hn'];exact ((ho.put (hr.id.trans hid) hr.ni).send hr.ms).tell hr.ts
    ·exact h.off _
   ·simp only [cond_true];have hs:∀x∈[m],MI x:=fun x hx=>by rw [e9Q.1 hx];exact hm
    exact h.send hs
  ·rw [f0c (by omega)];exact h
theorem b0S{w:m6}(h:WI w){e:p7}(he:z7 32 okT e.i5):WI (C4 w e):=by
 have n2:=d7z h e;unfold C4;cases e.a8==2||(e.a8==3||e.a8==4)
 ·simp only [cond_false];cases hA:o7 e.A 0 2
  ·exact h
  rw [I4] at hA;obtain ⟨i,hi⟩:∃i:Nat,e.A=(i:Int):=⟨e.A.toNat,by omega⟩
  obtain ⟨n,hg,hn,hid,hni,hlt⟩:=a3N h (i:=i) (by omega);rw [hi,hn];simp only [e9O,cond_false];cases e.a8==1
  ·cases e.a8==5
   ·cases e.a8==6
    ·cases e.a8==7
     ·exact h
     ·exact h.put hid hni.fall
    ·have hr:=b0j hni;exact (h.put (hr.id.trans hid) hr.ni).send hr.ms
   ·have hr:=b0n hni;exact (h.put (hr.id.trans hid) hr.ni).send hr.ms
  ·exact e2u h (by omega) he
 ·exact n2
theorem b91{w:m6}(h:WI w){e:p7}(he:K6 e):b0r w e=some (C4 w e)/\WI (C4 w e):=by
 obtain ⟨n1,n2⟩:=d8G h e;unfold b0r C4;rw [n1];cases e.a8==2
 ·cases e.a8==3
  ·cases e.a8==4
   ·simp only [cond_false,Bool.or_self];by_cases h0:e.A<0
    ·rw [show decide (e.A<0)=true by simpa using h0,show o7 e.A 0 2=false by unfold o7;simp;omega];exact ⟨rfl,h⟩
    ·by_cases h3:e.A>=3
     ·rw [show decide (e.A<0)=false by simpa using h0,show decide (e.A>=3)=true by simpa using h3,show o7 e.A 0 2=false by unfold o7;simp;omega];exact ⟨rfl,h⟩
     ·obtain ⟨i,hi⟩:∃i:Nat,e.A=(i:Int):=⟨e.A.toNat,by omega⟩
      rw [show decide (e.A<0)=false by simpa using h0,show decide (e.A>=3)=false by simpa using h3,show o7 e.A 0 2=true by unfold o7;simp;omega,hi];simp only [cond_false,e9O];obtain ⟨n,hg,hn,hid,hni,hlt⟩:=a3N h (i:=i) (by omega);rw [a7W,hg,e9J,hn];cases e.a8==1
      ·simp only [cond_false];cases e.a8==5
       ·simp only [cond_false];cases e.a8==6
        ·simp only [cond_false];cases e.a8==7
         ·simp only [cond_false];rw [a6s _ (by simp [t8]) (by simp),e9J,a72 _ (by simp [t8]),a2K,c1I];exact ⟨congrArg some (b84 hg),h⟩
         ·simp only [cond_true];rw [d4r hni,e9J,a6s _ (by simp [t8]) (by simp),e9J,a72 _ (by simp [t8]),a2K,c1I];exact ⟨rfl,h.put hid hni.fall⟩
        ·simp only [cond_true];have hr:=b0j hni;have hl:=b9I n;rw [d8S hni,e9J,a6s _ (a9H (by omega)) (MI.okl hr.ms),e9J,a72 _ (by simp [t8]),a2K];exact ⟨rfl,(h.put (hr.id.trans hid) hr.ni).send hr.ms⟩
       ·simp only [cond_true];have hr:=b0n hni;have hl:=b61 n;rw [e3B hni,e9J,a6s _ (a9H (by omega)) (MI.okl hr.ms),e9J,a72 _ (by simp [t8]),a2K];exact ⟨rfl,(h.put (hr.id.trans hid) hr.ni).send hr.ms⟩
      ·simp only [cond_true];obtain ⟨a1,a2⟩:=d7y h (i:=i) (by omega) he;unfold c3n;rw [hi,show (⟨w.a9.set (i:Int).toNat n,w.b9,w.d7,w.Told⟩:m6)=w from b84 hg,a1];exact ⟨rfl,a2⟩
   ·exact ⟨rfl,n2⟩
  ·exact ⟨rfl,n2⟩
 ·exact ⟨rfl,n2⟩
theorem WI.open:WI N7:=by
 refine ⟨rfl,?_,by simp [N7],by simp [N7],by simp [N7],by simp [N7],by simp [N7],by simp [N7]⟩;intro i n hn;match i,hn with
 | 0,hn=>injection hn with hn;subst hn;exact ⟨rfl,.open (by omega)⟩
 | 1,hn=>injection hn with hn;subst hn;exact ⟨rfl,.open (by omega)⟩
 | 2,hn=>injection hn with hn;subst hn;exact ⟨rfl,.open (by omega)⟩
 | i+3,hn=>simp [N7] at hn
theorem d1z:b19=some N7:=by
 have e:∀(ns:List j6) (i:Nat),i<3->ns.length<=3->a3y ns (i:Int)=some (.nxt (ns++[C0 (i:Int)],((i+1:Nat):Int))):=by
  intro ns i hi hn;unfold a3y b95;rw [show decide ((i:Int)<3)=true by simp;omega,show decide ((i:Int)<0)=false by simp,show decide ((i:Int)>=3)=false by simp;omega];simp only [cond_true,cond_false,e9J];rw [t9 (by omega),B9 (by omega) (by omega)];rfl
 have h0:=E1 (body:=fun s:(List j6)×Int=>a3y s.1 s.2) (s:=([],((0:Nat):Int))) (e [] 0 (by omega) (by simp));have h1:=E1 (body:=fun s:(List j6)×Int=>a3y s.1 s.2) (s:=([C0 0],((1:Nat):Int))) (e [C0 0] 1 (by omega) (by simp));have h2:=E1 (body:=fun s:(List j6)×Int=>a3y s.1 s.2) (s:=([C0 0,C0 1],((2:Nat):Int))) (e [C0 0,C0 1] 2 (by omega) (by simp));have h3:=C6 (body:=fun s:(List j6)×Int=>a3y s.1 s.2) (s:=([C0 0,C0 1,C0 2],((3:Nat):Int))) (show a3y [C0 0,C0 1,C0 2] 3=_ from rfl);unfold b19;rw [show p8 (fun s:(List j6)×Int=>a3y s.1 s.2) ([],0)=_ from h0.trans (h1.trans (h2.trans h3))];rfl
theorem d00{w:m6}(h:WI w):∀{l:List p7},(∀e∈l,K6 e)->WI (a0X w l)
 | [],_=>h
 | e::l,he=>d00 (w:=C4 w e) (b0S h (he e (by simp))) (l:=l) fun x hx=>he x (by simp [hx])
theorem d0b{w:m6}(h:a09 w):b1t w=some w:=by
 obtain ⟨h1,h2,h3,h4⟩:=h;have b1:=h1.1;have b2:=h2.1;have b3:=h3.1;unfold b1t;rw [t9 (b2A h4),a5L (body:=fun s:(List j6)×Int=>b3i w s.1 s.2) w.a9 (h1.fits (by decide)) (fun l=>l) (by
  intro k hk;have hn:((w.a9.take k).length+1)*392<=140737488355328:=Nat.le_trans (e95 392 (show (w.a9.take k).length+1<=w.a9.length by rw [e96];omega)) (Nat.le_trans b1 (by decide));unfold b3i;rw [x8 _ k hk,u0 hk];simp only [cond_true,e9J,b2x (h1.2 _ (e9M hk)),t9 hn]) (by
  unfold b3i;rw [A4];rfl)]
 simp only [e9J,l9.go];unfold c2H;rw [a5L (body:=fun s:(List j8)×Int=>b1e w s.1 s.2) w.b9 (h2.fits (by decide)) (fun l=>l) (by
  intro k hk;have hn:((w.b9.take k).length+1)*152<=140737488355328:=Nat.le_trans (e95 152 (show (w.b9.take k).length+1<=w.b9.length by rw [e96];omega)) (Nat.le_trans b2 (by decide));unfold b1e;rw [x8 _ k hk,u0 hk];simp only [cond_true,e9J,b4a (h2.2 _ (e9M hk)),t9 hn]) (by
  unfold b1e;rw [A4];rfl)]
 simp only [e9J,l9.go];unfold c2t;rw [a5L (body:=fun s:(List v5)×Int=>b2J w s.1 s.2) w.d7 (h3.fits (by decide)) (fun l=>l) (by
  intro k hk;unfold b2J;have hp:=(h3.2 _ (e9M hk)).2;have hn:((w.d7.take k).length+1)*40<=140737488355328:=Nat.le_trans (e95 40 (show (w.d7.take k).length+1<=w.d7.length by rw [e96];omega)) (Nat.le_trans b3 (by decide));rw [x8 _ k hk,u0 hk];simp only [cond_true,e9J,t9 (b2A hp),t9 hn,f0r]) (by
  unfold b2J;rw [A4];rfl)]
 rfl
theorem d3u{l:List p7}(hl:t8 l)(he:∀e∈l,K6 e):∀(d k:Nat) (w:m6),WI w->l.length-k=d->p8 (fun s:(List j6)×(List j8)×(List v5)×(List m9)×Int=>a4q l s.1 s.2.1 s.2.2.1 s.2.2.2.1 s.2.2.2.2) (w.a9,w.b9,w.d7,w.Told,(k:Int))=some (.brk ((a0X w (l.drop k)).a9,(a0X w (l.drop k)).b9,(a0X w (l.drop k)).d7,(a0X w (l.drop k)).Told))
 | 0,k,w,h,hd=>by
  rw [e91 (by omega)];refine C6 ?_;show a4q l w.a9 w.b9 w.d7 w.Told (k:Int)=_
  unfold a4q;rw [show decide ((k:Int)<(l.length:Int))=false by simp;omega];rfl
 | d+1,k,w,h,hd=>by
  have hlt:k<l.length:=by omega
  obtain ⟨h1,h2⟩:=b91 h (he _ (e9M hlt));have hb:a4q l w.a9 w.b9 w.d7 w.Told (k:Int)=some (.nxt ((C4 w l[k]).a9,(C4 w l[k]).b9,(C4 w l[k]).d7,(C4 w l[k]).Told,((k+1:Nat):Int))):=by
   unfold a4q;rw [x8 _ k hlt,u0 hlt,cond_true,e9J,show (⟨w.a9,w.b9,w.d7,w.Told⟩:m6)=w from rfl,h1,e9J,F3 hl hlt]
  rw [E1 (body:=fun s:(List j6)×(List j8)×(List v5)×(List m9)×Int=>a4q l s.1 s.2.1 s.2.2.1 s.2.2.2.1 s.2.2.2.2) (s:=(w.a9,w.b9,w.d7,w.Told,(k:Int))) hb,d3u hl he d (k+1) _ h2 (by omega),e97 hlt];rfl
def noW:m6:=⟨[],[],[],[]⟩
theorem e2Z{w:m6}(h:a09 w){l:List p7}(hl:t8 l)(he:∀e∈l,K6 e):b14 w l=some (bif J2 w&&decide (l.length<=400) then a0X w l else noW):=by
 unfold b14;rw [d1w h,e9J,d0b h,show decide ((l.length:Int)>400) = !decide (l.length<=400) from b0q l 400];cases hw:J2 w
 ·rfl
 ·cases decide (l.length<=400)
  ·rfl
  ·simp only [e9O,cond_false,e9J,Bool.and_self,cond_true];rw [show p8 (fun s:(List j6)×(List j8)×(List v5)×(List m9)×Int=>a4q l s.1 s.2.1 s.2.2.1 s.2.2.2.1 s.2.2.2.2) (w.a9,w.b9,w.d7,w.Told,0)=_ from d3u hl he l.length 0 w (a7a.1 hw) rfl];rfl
theorem V0{k a:Int}{p:List o9}(h:p.length<=10):K6 ⟨k,a,p⟩:=⟨by show p.length*32<=_;omega,fun _ _=>trivial⟩
theorem e9y(n:Int):∃v,b5d 1 n=some v:=by
 unfold b5d;cases decide ((1:Int)>n)<;>exact ⟨_,rfl⟩
theorem e5y{r:s9}{m:Nat}(h:Rd r m)(hm:m<=1000000)(w:m6):∃e r',b4R r w=some (e,r',w)/\Rd r' (m+210)/\K6 e:=by
 obtain ⟨v,hv⟩:=e9y (w.b9.length:Int);obtain ⟨a,r1,e1,h1,_⟩:=H3 h (by omega) v;obtain ⟨b,r2,e2,h2,_⟩:=H3 h1 (by omega) 24;have ask:∃e r',((E2 r2 3).bind fun p=>(a4K p.2).bind fun q=>some (p7.mk 1 p.1 q.1,q.2,w))=some (e,r',w)/\Rd r' (m+210)/\K6 e:=by
  obtain ⟨c,r3,e3,h3,_⟩:=H3 h2 (by omega) 3;obtain ⟨p,r4,e4,h4,hp⟩:=b9p h3 (by omega);rw [e3,e9J,e4,e9J];exact ⟨_,_,rfl,h4.mono (by omega),V0 hp⟩
 obtain ⟨c3,r3,e3,h3,_⟩:=H3 h2 (by omega) 3;obtain ⟨c4,r4,e4,h4,_⟩:=H3 h2 (by omega) 2;obtain ⟨c5,r5,e5,h5,_⟩:=H3 h4 (by omega) 3;obtain ⟨c6,r6,e6,h6,_⟩:=H3 h3 (by omega) 10;obtain ⟨c7,r7,e7,h7,_⟩:=H3 h6 (by omega) 5;obtain ⟨p,r8,e8,h8,hp⟩:=b9p h3 (by omega);have z:∀(k x:Int) (r:s9) (j:Nat),Rd r j->j<=m+210->∃e r',(some (p7.mk k x [],r,w):Option (p7×s9×m6))=some (e,r',w)/\Rd r' (m+210)/\K6 e:=fun k x r j hr hj=>⟨_,_,rfl,hr.mono hj,V0 (by simp)⟩
 unfold b4R;rw [hv,e9J,e1,e9J,e2,e9J];simp only [e3,e4,e5,e6,e7,e8,e9J];cases b==0
 ·cases b==1
  ·cases b==2
   ·cases b==3
    ·cases b==4
     ·cases b==5
      ·cases b==6
       ·cases b==7
        ·cases b==8
         ·cases b==9
          ·cases b==10
           ·exact z _ _ _ _ h2 (by omega)
           ·cases c3==0
            ·exact z _ _ _ _ h3 (by omega)
            ·exact z _ _ _ _ h7 (by omega)
          ·exact z _ _ _ _ h2 (by omega)
         ·exact z _ _ _ _ h2 (by omega)
        ·cases c4==0
         ·exact z _ _ _ _ h4 (by omega)
         ·exact z _ _ _ _ h5 (by omega)
       ·exact z _ _ _ _ h3 (by omega)
      ·exact z _ _ _ _ h3 (by omega)
     ·exact z _ _ _ _ h3 (by omega)
    ·exact ⟨_,_,rfl,h8.mono (by omega),V0 hp⟩
   ·exact ⟨_,_,rfl,h8.mono (by omega),V0 hp⟩
  ·exact ⟨_,_,rfl,h8.mono (by omega),V0 hp⟩
 ·exact ⟨_,_,rfl,h8.mono (by omega),V0 hp⟩
structure S5(w:m6)(out:List p7)(b:Nat):Prop where
 w:WI w
 e:∀x∈out,K6 x
 l:out.length<=b
theorem c8z{out:List p7}{e:p7}(h:∀x∈out,K6 x)(he:K6 e):∀x∈out++[e],K6 x:=by
 intro x hx;rcases List.mem_append.1 hx with q|q
 ·exact h x q
 ·rw [e9Q.1 q];exact he
theorem a1P{w:m6}{out:List p7}{b:Nat}(h:S5 w out b)(hb:b<=1000){e:p7}(he:K6 e):a0O w out e=some (C4 w e,out++[e])/\S5 (C4 w e) (out++[e]) (b+1):=by
 obtain ⟨h1,h2⟩:=b91 h.w he;have hl:=h.l;unfold a0O;rw [h1,e9J,t9 (by omega)];exact ⟨rfl,h2,c8z h.e he,by simp;omega⟩
theorem e0w{r:s9}{m:Nat}(h:Rd r m)(hm:m<=1000){w:m6}(hw:WI w){n:Nat}(hn:n<=90):∃l r',b3Z r w (n:Int)=some (l,r')/\(∀e∈l,K6 e)/\l.length<=90/\Rd r' 1000000:=by
 have hloop:=b6w (body:=fun s:s9×(List p7)×(List m9)×(List v5)×(List j8)×(List j6)×Int=>b35 (n:Int) s.1 s.2.1 s.2.2.1 s.2.2.2.1 s.2.2.2.2.1 s.2.2.2.2.2.1 s.2.2.2.2.2.2)
  (fun k s=>k<=n/\s.2.2.2.2.2.2=((n-k:Nat):Int)/\WI ⟨s.2.2.2.2.2.1,s.2.2.2.2.1,s.2.2.2.1,s.2.2.1⟩/\(∀e∈s.2.1,K6 e)/\s.2.1.length=n-k/\Rd s.1 (m+210*(n-k)))
  (fun x => ∃ (r':s9) (l:List p7),x=.brk (r',l)/\(∀e∈l,K6 e)/\l.length<=90/\Rd r' 1000000) (by
   rintro k ⟨r1,out,told,asked,net,nodes,i⟩ ⟨hk,hi,hw,he,hl,hr⟩
   simp only at hi hw he hl hr;unfold b35;rw [hi];cases k with
   | zero =>
    rw [show decide (((n-0:Nat):Int)<(n:Int))=false by simp];exact ⟨_,rfl,_,_,rfl,he,by simp only;omega,hr.mono (by omega)⟩
   | succ k =>
    rw [show decide (((n-(k+1):Nat):Int)<(n:Int))=true by simp;omega];obtain ⟨e,r2,ee,hr2,hee⟩:=e5y hr (by omega) ⟨nodes,net,asked,told⟩;obtain ⟨d1,d2⟩:=b91 hw hee;simp only [cond_true,ee,e9J];rw [t9 trivial,t9 trivial,t9 trivial,t9 trivial,t9 (by omega),d1w hw.ok,a7a.2 hw,d0b hw.ok];simp only [e9J,cond_true,d1,l9.go,b97];refine ⟨_,rfl,k,by omega,by omega,?_,d2,c8z he hee,by simp;omega,hr2.mono (by omega)⟩;rw [B9 (by omega) (by omega)];simp only;omega) (k:=n) (s:=(r,[],w.Told,w.d7,w.b9,w.a9,0)) ⟨f0d _,by simp,hw,by simp,by simp,by simpa using h⟩
 obtain ⟨x,hx,r',l,rfl,h1,h2⟩:=hloop;unfold b3Z;rw [hx];exact ⟨l,r',rfl,h1,h2⟩
theorem d9V{w:m6}(h:0<w.b9.length):C4 w ⟨3,0,[]⟩=a2E w 0:=by
 unfold C4 a0F;simp only [show ((3:Int)==2)=false from rfl,show ((3:Int)==3)=true from rfl,show ((3:Int)==4)=false from rfl,Bool.or_false,f0i,cond_true,cond_false,show decide ((0:Int)<=0)=true from rfl,Int.toNat_zero];rw [e9K h]
theorem e39(w:m6)(a:Int)(p:List o9):(C4 w ⟨5,a,p⟩).b9.length<=w.b9.length+3:=by
 unfold C4;simp only [show ((5:Int)==2)=false from rfl,show ((5:Int)==3)=false from rfl,show ((5:Int)==4)=false from rfl,show ((5:Int)==1)=false from rfl,show ((5:Int)==5)=true from rfl,Bool.or_false,cond_true,cond_false];cases !o7 a 0 2
 ·have:=b61 (H4 w a);simp only [cond_false,a0l,M7,e9T,e96];omega
 ·simp
theorem c90{b:Nat}:∀(d:Nat) (w:m6) (out:List p7),w.b9.length=d->S5 w out b->b+d<=1000->∃w' out',p8 (fun s:(List p7)×(List j6)×(List j8)×(List v5)×List m9=>a6t s.1 s.2.1 s.2.2.1 s.2.2.2.1 s.2.2.2.2) (out,w.a9,w.b9,w.d7,w.Told)=some (.brk (out',w'.a9,w'.b9,w'.d7,w'.Told))/\w'.b9=[]/\S5 w' out' (b+d)
 | 0,w,out,hd,h,hb=>by
  refine ⟨w,out,C6 ?_,e9V hd,h⟩;show a6t out w.a9 w.b9 w.d7 w.Told=_
  unfold a6t;rw [show decide ((w.b9.length:Int)>0)=false from decide_eq_false (by omega)];rfl
 | d+1,w,out,hd,h,hb=>by
  obtain ⟨t1,t2⟩:=a1P h (by omega) (e:=⟨3,0,[]⟩) (V0 (by simp));have hs:a6t out w.a9 w.b9 w.d7 w.Told=some (.nxt (out++[⟨3,0,[]⟩],(C4 w ⟨3,0,[]⟩).a9,(C4 w ⟨3,0,[]⟩).b9,(C4 w ⟨3,0,[]⟩).d7,(C4 w ⟨3,0,[]⟩).Told)):=by
   unfold a6t;rw [show decide ((w.b9.length:Int)>0)=true from decide_eq_true (by omega),cond_true,show (⟨w.a9,w.b9,w.d7,w.Told⟩:m6)=w from rfl,t1];rfl
  rw [E1 (body:=fun s:(List p7)×(List j6)×(List j8)×(List v5)×List m9=>a6t s.1 s.2.1 s.2.2.1 s.2.2.2.1 s.2.2.2.2) (s:=(out,w.a9,w.b9,w.d7,w.Told)) hs];obtain ⟨w',out',e1,e2,e3⟩:=c90 (b:=b+1) d (C4 w ⟨3,0,[]⟩) _ (by rw [d9V (by omega)];simp [a2E];omega) t2 (by omega);exact ⟨w',out',e1,e2,⟨e3.w,e3.e,by have:=e3.l;omega⟩⟩
theorem c5k{p:Int×s9}{B:Nat}(hB:B<=900):∀(i:Nat) (w:m6) (out:List p7) (b:Nat),S5 w out b->b+w.b9.length+4*i<=B->i<=100->∃w' out',p8 (fun s:(List m9)×(List v5)×(List j8)×(List j6)×(List p7)×Int=>a8F p s.1 s.2.1 s.2.2.1 s.2.2.2.1 s.2.2.2.2.1 s.2.2.2.2.2) (w.Told,w.d7,w.b9,w.a9,out,(i:Int))=some (.brk (out',w'.a9,w'.b9,w'.d7,w'.Told))/\S5 w' out' B
 | 0,w,out,b,h,hb,hi=>by
  refine ⟨w,out,C6 ?_,h.w,h.e,by have:=h.l;omega⟩;rfl
 | i+1,w,out,b,h,hb,hi=>by
  obtain ⟨w1,out1,e1,e2,e3⟩:=c90 (b:=b) w.b9.length w out rfl h (by omega);obtain ⟨t1,t2⟩:=a1P e3 (by omega) (e:=⟨5,p.1,[]⟩) (V0 (by simp));have hs:a8F p w.Told w.d7 w.b9 w.a9 out ((i+1:Nat):Int)=some (.nxt ((C4 w1 ⟨5,p.1,[]⟩).Told,(C4 w1 ⟨5,p.1,[]⟩).d7,(C4 w1 ⟨5,p.1,[]⟩).b9,(C4 w1 ⟨5,p.1,[]⟩).a9,out1++[⟨5,p.1,[]⟩],(i:Int))):=by
   unfold a8F;rw [show decide (((i+1:Nat):Int)>0)=true from decide_eq_true (by omega),cond_true,e1];simp only [e9J,l9.go,c27];rw [show (⟨w1.a9,w1.b9,w1.d7,w1.Told⟩:m6)=w1 from rfl,t1,e9J,B9 (by omega) (by omega),show ((i+1:Nat):Int)-1=(i:Int) by omega]
  rw [E1 (body:=fun s:(List m9)×(List v5)×(List j8)×(List j6)×(List p7)×Int=>a8F p s.1 s.2.1 s.2.2.1 s.2.2.2.1 s.2.2.2.2.1 s.2.2.2.2.2) (s:=(w.Told,w.d7,w.b9,w.a9,out,((i+1:Nat):Int))) hs];have hn:=e39 w1 p.1 [];rw [e2] at hn;simp only [f01,f0v] at hn;exact c5k hB i _ _ _ t2 (by omega) (by omega)
theorem e0k{r:s9}{m:Nat}(h:Rd r m)(hm:m<=1000){w:m6}{out:List p7}(hw:S5 w out 1):∃w' out' r',b7J r w out=some (w',out',r')/\S5 w' out' 130/\Rd r' (m+3):=by
 obtain ⟨a,r1,e1,h1,_⟩:=H3 h (by omega) 3;obtain ⟨v,r2,e2,h2,hv⟩:=b3n h1 (by omega) [3,8,20] (by simp) (by simp);obtain ⟨i,hi,hi20⟩:∃i:Nat,v=(i:Int)/\i<=20:=by
  simp at hv;rcases hv with rfl|rfl|rfl
  ·exact ⟨3,rfl,by omega⟩
  ·exact ⟨8,rfl,by omega⟩
  ·exact ⟨20,rfl,by omega⟩
 have hml:=hw.w.ml;obtain ⟨w',out',e3,e4⟩:=c5k (p:=(a,r1)) (B:=125) (by omega) i w out 1 hw (by omega) (by omega);have e4':S5 w' out' 125:=e4;unfold b7J;rw [e1,e9J,e2,e9J,hi,e3];simp only [e9J,l9.go,c0x];cases decide ((w'.b9.length:Int)>0)
 ·simp only [cond_false,e9J,l9.go,b4i];obtain ⟨t1,t2⟩:=a1P e4' (by omega) (e:=⟨7,a,[]⟩) (V0 (by simp));rw [show (⟨w'.a9,w'.b9,w'.d7,w'.Told⟩:m6)=w' from rfl,t1];exact ⟨_,_,_,rfl,⟨t2.w,t2.e,by have:=t2.l;simp only;omega⟩,h2.mono (by omega)⟩
 ·obtain ⟨c,r3,e5,h5,_⟩:=H3 h2 (by omega) (w'.b9.length:Int);obtain ⟨t1,t2⟩:=a1P e4' (by omega) (e:=⟨2,c,[]⟩) (V0 (by simp));obtain ⟨u1,u2⟩:=a1P t2 (by omega) (e:=⟨7,a,[]⟩) (V0 (by simp));simp only [cond_true,e5,e9J];rw [show (⟨w'.a9,w'.b9,w'.d7,w'.Told⟩:m6)=w' from rfl,t1];simp only [e9J,l9.go,b4i];rw [show (⟨(C4 w' ⟨2,c,[]⟩).a9,(C4 w' ⟨2,c,[]⟩).b9,(C4 w' ⟨2,c,[]⟩).d7,(C4 w' ⟨2,c,[]⟩).Told⟩:m6)=C4 w' ⟨2,c,[]⟩ from rfl,u1];exact ⟨_,_,_,rfl,⟨u2.w,u2.e,by have:=u2.l;simp only;omega⟩,h5.mono (by omega)⟩
theorem d51{M:Nat}(hM:M<=100000){r:s9}{w:m6}{out:List p7}(h:S5 w out 290)(hr:Rd r (M+10*out.length)):∃w' out' r',p8 (fun s:s9×(List j6)×(List j8)×(List v5)×(List m9)×List p7=>b00 s.1 s.2.1 s.2.2.1 s.2.2.2.1 s.2.2.2.2.1 s.2.2.2.2.2) (r,w.a9,w.b9,w.d7,w.Told,out)=some (.brk (r',w'.a9,w'.b9,w'.d7,w'.Told,out'))/\S5 w' out' (max out.length 201)/\Rd r' (M+10*out'.length+2):=by
 have hloop:=b6w (body:=fun s:s9×(List j6)×(List j8)×(List v5)×(List m9)×List p7=>b00 s.1 s.2.1 s.2.2.1 s.2.2.2.1 s.2.2.2.2.1 s.2.2.2.2.2)
  (fun k s => ∃w:m6,s.2=(w.a9,w.b9,w.d7,w.Told,s.2.2.2.2.2)/\S5 w s.2.2.2.2.2 (max out.length 201)/\k=300-s.2.2.2.2.2.length/\Rd s.1 (M+10*s.2.2.2.2.2.length))
  (fun x => ∃ (w':m6) (out':List p7) (r':s9),x=.brk (r',w'.a9,w'.b9,w'.d7,w'.Told,out')/\S5 w' out' (max out.length 201)/\Rd r' (M+10*out'.length+2)) (by
   rintro k ⟨r1,s⟩ ⟨w1,hs,hf,hk,hr1⟩
   simp only at hs hf hk hr1;obtain ⟨nodes,net,asked,told,o⟩:=s;simp only at hs hf hk hr1;injection hs with e1 e2;injection e2 with e2 e3;injection e3 with e3 e4;injection e4 with e4 e5;subst e1;subst e2;subst e3;subst e4;have hl:=hf.l;have hol:=h.l;unfold b00;cases decide ((w1.b9.length:Int)>0)
   ·exact ⟨_,rfl,w1,o,r1,rfl,hf,hr1.mono (by omega)⟩
   ·obtain ⟨a,r2,p1,p2,_⟩:=H3 hr1 (by omega) 9;simp only [cond_true,p1,e9J];cases decide (a>0)
    ·exact ⟨_,rfl,w1,o,r2,rfl,hf,p2.mono (by omega)⟩
    ·simp only [cond_true];by_cases h200:o.length<200
     ·rw [show decide ((o.length:Int)<200)=true from decide_eq_true (by omega)];obtain ⟨b,r3,q1,q2,_⟩:=H3 p2 (by omega) 8;have go:∀(w2:m6) (o2:List p7) (r4:s9) (j:Nat),S5 w2 o2 (max out.length 201)->o2.length<=200->Rd r4 j->j<=M+10*o2.length+4->o.length<=o2.length->∃st,b8y r4 w2.a9 w2.b9 w2.d7 w2.Told o2=some st/\match st with
        | .ret _=>False
        | .brk _=>False
        | .nxt t => ∃k',k'<k/\∃w:m6,t.2=(w.a9,w.b9,w.d7,w.Told,t.2.2.2.2.2)/\S5 w t.2.2.2.2.2 (max out.length 201)/\k'=300-t.2.2.2.2.2.length/\Rd t.1 (M+10*t.2.2.2.2.2.length):=by
       intro w2 o2 r4 j hf2 ho2 hr4 hj hle;obtain ⟨c,r5,x1,x2,_⟩:=H3 hr4 (by omega) (w2.b9.length:Int);obtain ⟨d,r6,y1,y2,_⟩:=b3n x2 (by omega) [0,0,c] (by simp) (by simp);obtain ⟨t1,t2⟩:=a1P (b:=200) ⟨hf2.w,hf2.e,ho2⟩ (by omega) (e:=⟨2,d,[]⟩) (V0 (by simp));unfold b8y;rw [x1,e9J,y1,e9J,show (⟨w2.a9,w2.b9,w2.d7,w2.Told⟩:m6)=w2 from rfl,t1];refine ⟨_,rfl,300-(o2++[(⟨2,d,[]⟩:p7)]).length,by simp;omega,C4 w2 ⟨2,d,[]⟩,rfl,⟨t2.w,t2.e,by simp;omega⟩,rfl,y2.mono (by simp;omega)⟩
      simp only [cond_true,q1,e9J];cases b==0
      ·obtain ⟨st,g1,g2⟩:=go w1 o r3 _ hf (by omega) q2 (by omega) (f0d _);refine ⟨st,g1,?_⟩;cases st with
       | ret _=>exact g2.elim
       | brk _=>exact g2.elim
       | nxt t=>exact g2
      ·obtain ⟨c,r4,x1,x2,_⟩:=H3 q2 (by omega) (w1.b9.length:Int);obtain ⟨t1,t2⟩:=a1P (b:=199) ⟨hf.w,hf.e,by omega⟩ (by omega) (e:=⟨4,c,[]⟩) (V0 (by simp));simp only [cond_true,x1,e9J];rw [show (⟨w1.a9,w1.b9,w1.d7,w1.Told⟩:m6)=w1 from rfl,t1];simp only [e9J,l9.go];have hl2:(o++[(⟨4,c,[]⟩:p7)]).length=o.length+1:=by simp
       obtain ⟨st,g1,g2⟩:=go (C4 w1 ⟨4,c,[]⟩) (o++[⟨4,c,[]⟩]) r4 _ ⟨t2.w,t2.e,by omega⟩ (by omega) x2 (by omega) (by omega);refine ⟨st,g1,?_⟩;cases st with
       | ret _=>exact g2.elim
       | brk _=>exact g2.elim
       | nxt t=>exact g2
     ·rw [show decide ((o.length:Int)<200)=false from decide_eq_false (by omega)];exact ⟨_,rfl,w1,o,r2,rfl,hf,p2.mono (by omega)⟩) (k:=300-out.length) (s:=(r,w.a9,w.b9,w.d7,w.Told,out)) ⟨w,rfl,⟨h.w,h.e,by simp only;omega⟩,rfl,hr⟩
 obtain ⟨x,hx,w',out',r',rfl,h1,h2⟩:=hloop;exact ⟨w',out',r',hx,h1,h2⟩
theorem d0Z:∀(i:Nat) (r:s9) (w:m6) (out:List p7),i<=6->S5 w out (201+3*(6-i))->Rd r (10000-1000*i+10*out.length)->∃r' out',p8 (fun s:s9×(List j6)×(List j8)×(List v5)×(List m9)×(List p7)×Int=>b0h s.1 s.2.1 s.2.2.1 s.2.2.2.1 s.2.2.2.2.1 s.2.2.2.2.2.1 s.2.2.2.2.2.2) (r,w.a9,w.b9,w.d7,w.Told,out,(i:Int))=some (.brk (r',out'))/\(∀e∈out',K6 e)/\out'.length<=300/\Rd r' 1000000
 | 0,r,w,out,hi,h,hr=>⟨r,out,C6 rfl,h.e,by have:=h.l;omega,hr.mono (by have:=h.l;omega)⟩
 | i+1,r,w,out,hi,h,hr=>by
  have hl:=h.l;obtain ⟨a,r1,p1,p2,_⟩:=H3 hr (by omega) 3;obtain ⟨pr,r2,q1,q2,q3⟩:=b9p p2 (by omega);obtain ⟨t1,t2⟩:=a1P h (by omega) (e:=⟨1,a,pr⟩) (V0 q3);have hlen:(out++[(⟨1,a,pr⟩:p7)]).length=out.length+1:=by simp
  obtain ⟨w3,o3,r3,x1,x2,x3⟩:=d51 (M:=10000-1000*(i+1)+201) (by omega) (w:=C4 w ⟨1,a,pr⟩) (out:=out++[⟨1,a,pr⟩]) (r:=r2) ⟨t2.w,t2.e,by omega⟩ (q2.mono (by omega));have x2l:=x2.l;obtain ⟨b,r4,y1,y2,_⟩:=H3 x3 (by omega) 4;have fin:∀(w4:m6) (o4:List p7) (r5:s9) (j:Nat),S5 w4 o4 (201+3*(6-(i+1))+2)->Rd r5 j->j<=10000-1000*(i+1)+300+10*o4.length->∃w5 o5 r6,b7F ((i+1:Nat):Int) r5 w4.a9 w4.b9 w4.d7 w4.Told o4=some (.nxt (r6,w5.a9,w5.b9,w5.d7,w5.Told,o5,(i:Int)))/\S5 w5 o5 (201+3*(6-i))/\Rd r6 (10000-1000*i+10*o5.length):=by
   intro w4 o4 r5 j hf hr5 hj;have hfl:=hf.l;obtain ⟨c,r6,z1,z2,_⟩:=H3 hr5 (by omega) 3;obtain ⟨u1,u2⟩:=a1P hf (by omega) (e:=⟨6,c,[]⟩) (V0 (by simp));refine ⟨C4 w4 ⟨6,c,[]⟩,o4++[⟨6,c,[]⟩],r6,?_,⟨u2.w,u2.e,by have:=u2.l;omega⟩,z2.mono (by simp;omega)⟩;unfold b7F;rw [z1,e9J,show (⟨w4.a9,w4.b9,w4.d7,w4.Told⟩:m6)=w4 from rfl,u1,e9J,B9 (by omega) (by omega),show ((i+1:Nat):Int)-1=(i:Int) by omega]
  have hstep:∃w5 o5 r6,b0h r w.a9 w.b9 w.d7 w.Told out ((i+1:Nat):Int)=some (.nxt (r6,w5.a9,w5.b9,w5.d7,w5.Told,o5,(i:Int)))/\S5 w5 o5 (201+3*(6-i))/\Rd r6 (10000-1000*i+10*o5.length):=by
   unfold b0h;rw [show decide (((i+1:Nat):Int)>0)=true from decide_eq_true (by omega),cond_true,p1,e9J,q1,e9J,show (⟨w.a9,w.b9,w.d7,w.Told⟩:m6)=w from rfl,t1,e9J,x1];simp only [e9J,l9.go];unfold c0f;rw [y1,e9J];cases b==0
   ·cases b==1
    ·simp only [cond_false,e9J,l9.go];exact fin w3 o3 r4 _ ⟨x2.w,x2.e,by omega⟩ y2 (by omega)
    ·obtain ⟨c,r5,z1,z2,_⟩:=H3 y2 (by omega) 3;obtain ⟨u1,u2⟩:=a1P x2 (by omega) (e:=⟨5,c,[]⟩) (V0 (by simp));simp only [cond_false,cond_true,z1,e9J];rw [show (⟨w3.a9,w3.b9,w3.d7,w3.Told⟩:m6)=w3 from rfl,u1];simp only [e9J,l9.go];exact fin (C4 w3 ⟨5,c,[]⟩) _ r5 _ ⟨u2.w,u2.e,by have:=u2.l;omega⟩ z2 (by simp;omega)
   ·obtain ⟨c,r5,z1,z2,_⟩:=H3 y2 (by omega) 3;obtain ⟨u1,u2⟩:=a1P x2 (by omega) (e:=⟨7,c,[]⟩) (V0 (by simp));simp only [cond_true,z1,e9J];rw [show (⟨w3.a9,w3.b9,w3.d7,w3.Told⟩:m6)=w3 from rfl,u1];simp only [e9J,l9.go];exact fin (C4 w3 ⟨7,c,[]⟩) _ r5 _ ⟨u2.w,u2.e,by have:=u2.l;omega⟩ z2 (by simp;omega)
  obtain ⟨w5,o5,r6,s1,s2,s3⟩:=hstep;rw [E1 (body:=fun s:s9×(List j6)×(List j8)×(List v5)×(List m9)×(List p7)×Int=>b0h s.1 s.2.1 s.2.2.1 s.2.2.2.1 s.2.2.2.2.1 s.2.2.2.2.2.1 s.2.2.2.2.2.2) (s:=(r,w.a9,w.b9,w.d7,w.Told,out,((i+1:Nat):Int))) s1];exact d0Z i r6 w5 o5 (by omega) s2 s3
theorem e3i{r:s9}{m:Nat}(h:Rd r m)(hm:m<=100):∃l r',b5p r=some (l,r')/\(∀e∈l,K6 e)/\l.length<=300/\Rd r' 1000000:=by
 obtain ⟨a,r1,p1,p2,_⟩:=H3 h (by omega) 3;obtain ⟨t1,t2⟩:=a1P (w:=N7) (out:=[]) (b:=0) ⟨WI.open,by simp,by simp⟩ (by omega) (e:=⟨5,a,[]⟩) (V0 (by simp));obtain ⟨b,r2,q1,q2,_⟩:=H3 p2 (by omega) 3;unfold b5p;rw [d1z,e9J,p1,e9J,t1,e9J,q1,e9J];have tail:∀(w:m6) (out:List p7) (r3:s9) (j:Nat),S5 w out 130->Rd r3 j->j<=200->∃l r',b53 r3 w.a9 w.b9 w.d7 w.Told out=some (l,r')/\(∀e∈l,K6 e)/\l.length<=300/\Rd r' 1000000:=by
  intro w out r3 j hf hr3 hj;obtain ⟨c,r4,x1,x2,x3,x4⟩:=H3 hr3 (by omega) 3;obtain ⟨i,hi,hi6⟩:∃i:Nat,m8 (3+c)=(i:Int)/\i<=6:=⟨(3+c).toNat,by rw [B9 (by omega) (by omega)];omega,by omega⟩
  obtain ⟨r',out',e1,e2,e3⟩:=d0Z i r4 w out hi6 ⟨hf.w,hf.e,by have:=hf.l;omega⟩ (x2.mono (by omega));unfold b53;rw [x1,e9J,hi,e1];exact ⟨out',r',rfl,e2,e3⟩
 have tf:S5 (C4 N7 ⟨5,a,[]⟩) ([]++[(⟨5,a,[]⟩:p7)]) 1:=t2;cases decide (b>0)
 ·obtain ⟨c,r3,x1,x2,_⟩:=H3 q2 (by omega) 5;simp only [cond_false,x1,e9J];cases c==0
  ·exact tail _ _ r3 _ ⟨tf.w,tf.e,by simp⟩ x2 (by omega)
  ·obtain ⟨w',o',r',y1,y2,y3⟩:=e0k x2 (by omega) tf;simp only [cond_true];rw [y1];exact tail w' o' r' _ y2 y3 (by omega)
 ·obtain ⟨v,r3,x1,x2,x3⟩:=b3n q2 (by omega) [10,30,60,90] (by simp) (by simp);obtain ⟨n,hn,hn90⟩:∃n:Nat,v=(n:Int)/\n<=90:=by
   simp at x3;rcases x3 with rfl|rfl|rfl|rfl
   ·exact ⟨10,rfl,by omega⟩
   ·exact ⟨30,rfl,by omega⟩
   ·exact ⟨60,rfl,by omega⟩
   ·exact ⟨90,rfl,by omega⟩
  obtain ⟨l,r4,y1,y2,y3,y4⟩:=e0w x2 (by omega) tf.w hn90;simp only [cond_true,x1,e9J];rw [hn,y1,e9J,t9 (by simp;omega)];refine ⟨_,_,rfl,?_,by simp;omega,y4⟩;intro e he;rcases List.mem_append.1 he with q|q
  ·exact tf.e e q
  ·exact y2 e q
theorem e8l{code:List Int}(h:∀x∈code,a5R x):∃l,b20 code=some l/\(∀e∈l,K6 e)/\l.length<=300:=by
 obtain ⟨r,h1,h2⟩:=e1p h;obtain ⟨l,r',e1,e2,e3,_⟩:=e3i h2 (by omega);unfold b20;rw [h1,e9J,e1];exact ⟨l,rfl,e2,e3⟩
theorem a68{α:Type}{l:List α}(z:α)(b:Nat)(h:l.length*b<=140737488351232):(bif ((l.length:Int)==0) then some [] else t5 (0<=(l.length:Int)/\(l.length:Int)*(b:Int)<=140737488355328) (t5 (l.length=(e9L (l.length:Int).toNat z).length) (some l)))=some l:=by
 cases hl:((l.length:Int)==0)
 ·have:(l.length:Int)*(b:Int)=((l.length*b:Nat):Int):=by rw [Int.natCast_mul]
  rw [cond_false,t9 ⟨by omega,by omega⟩,t9 (by simp)]
 ·simp only [beq_iff_eq] at hl;rw [e9V (by omega:l.length=0)];rfl
theorem b3Q{α R:Type}{body:List α×Int->Option (l8 R (List α×Int) (List α))}(l:List α)(hl:t8 l)(h1:∀(k:Nat) (hk:k<l.length),body (l,(k:Int))=some (.nxt (l.set k l[k],m8 ((k:Int)+1))))(h2:body (l,(l.length:Int))=some (.brk l)):p8 body (l,0)=some (.brk l):=by
 have:=W6 (body:=body) (fun k=>(l,(k:Int))) l.length fun k hk=>by rw [h1 k hk,F3 hl hk,f1n]
 exact this.trans (C6 h2)
theorem a6B{α:Type}{body:Int->Option (l8 Bool Int Unit)}(l:List α)(hl:t8 l)(h1:∀(k:Nat) (hk:k<l.length),body (k:Int)=some (.nxt (m8 ((k:Int)+1))))(h2:body (l.length:Int)=some (.brk ())):p8 body 0=some (.brk ()):=by
 have:=W6 (body:=body) (fun k=>(k:Int)) l.length fun k hk=>by rw [h1 k hk,F3 hl hk]
 exact this.trans (C6 h2)
theorem b5n{l:List m7}(h:z7 96 R2 l):a8m l=some l:=by
 unfold a8m;rw [show c24 l=some l from a68 _ 96 h.1,e9J,b3Q l (h.fits (by decide))]
 ·rfl
 ·intro k hk;unfold b5l;rw [x8 _ k hk,cond_true,u0 hk,e9J,b1r (h.2 _ (e9M hk)).2];rfl
 ·unfold b5l;rw [A4];rfl
theorem b6C{x:x6}(h:a5l x):a4x x=some x:=by
 unfold a4x;rw [b5n h.2];rfl
theorem d0O{l:List Bool}(h:z7 1 okT l):b7O l=some l:=a68 _ 1 h.1
theorem c8O{l:List o9}(h:l.length*32<=140737488351232):a8q l=some l:=a68 _ 32 h
theorem c8p{l:List m9}(h:l.length*40<=140737488351232):b6G l=some l:=a68 _ 40 h
theorem b4n{n:j6}(h:Q1 n):a7C n=some n:=by
 obtain ⟨h1,h2,h3,h4,h5,h6,h7,h8,h9,h10,h11,h12,h13⟩:=h;unfold a7C;rw [b6C h2,e9J,c0c h3,e9J,d0O h7,e9J,b5n h8,e9J,b1r h9,e9J,d0O h10,e9J,c8O h11.1,e9J,b1r h12,e9J,c0c h13];rfl
theorem e2r{m:j8}(h:a0b m):b4H m=some m:=by
 unfold b4H;rw [b1r h.2.2.2.2.2.1,e9J,b5n h.2.2.2.2.2.2];rfl
theorem d2B{l:List j8}(h:z7 152 a0b l):b2q l=some l:=by
 unfold b2q;rw [show c0A l=some l from a68 _ 152 h.1,e9J,b3Q l (h.fits (by decide))]
 ·rfl
 ·intro k hk;unfold b7t;rw [x8 _ k hk,cond_true,u0 hk,e9J,e2r (h.2 _ (e9M hk))];rfl
 ·unfold b7t;rw [A4];rfl
theorem b3H{w:m6}(h:a09 w):a1g w=some w:=by
 obtain ⟨h1,h2,h3,h4⟩:=h;unfold a1g b83;rw [show b9x w.a9=some w.a9 from a68 _ 392 h1.1,e9J,d2B h2,e9J,show c19 w.d7=some w.d7 from a68 _ 40 h3.1,e9J,c8p h4.1,e9J,b3Q w.a9 (h1.fits (by decide))]
 ·simp only [e9J,l9.go];rw [b3Q w.d7 (h3.fits (by decide))]
  ·rfl
  ·intro k hk;unfold b5m;rw [x8 _ k hk,cond_true,u0 hk,e9J,c8O (h3.2 _ (e9M hk)).2.1];rfl
  ·unfold b5m;rw [A4];rfl
 ·intro k hk;unfold b4s;rw [x8 _ k hk,cond_true,u0 hk,e9J,b4n (h1.2 _ (e9M hk))];rfl
 ·unfold b4s;rw [A4];rfl
theorem e6i:b5M=some N7:=by
 unfold b5M;have e:∀i:Int,0<=i->i<=2->b6e i=some (C0 i):=fun i h1 h2=>by
  unfold b6e;rw [M0,e9J,o7,decide_eq_true ⟨h1,h2⟩];rfl
 rw [E1 (t:=([C0 0],1)) (by unfold a9F;rw [e 0 (by omega) (by omega)];rfl),E1 (t:=([C0 0,C0 1],2)) (by unfold a9F;rw [e 1 (by omega) (by omega)];rfl),E1 (t:=([C0 0,C0 1,C0 2],3)) (by unfold a9F;rw [e 2 (by omega) (by omega)];rfl),C6 (b:=[C0 0,C0 1,C0 2]) (by unfold a9F;rfl)];show (a1g N7).bind _=_
 rw [b3H WI.open.ok];rfl
theorem b1p{e:m4}(h:E3 e):Z9 e e=some true:=by
 unfold Z9;have:a0p e.b8 e.b8=true:=(b30 _ _).2 rfl;simp only [beq_self_eq_true,cond_true,b4e h.2.f,this,e9J]
theorem c2C{l:List m7}(h:z7 96 R2 l):a8V l l=some true:=by
 unfold a8V;rw [bne_self_eq_false,cond_false,a6B l (h.fits (by decide))]
 ·rfl
 ·intro k hk;unfold b7x;simp only [x8 _ k hk,cond_true,u0 hk,e9J,bne_self_eq_false,cond_false,b1p (h.2 _ (e9M hk)).2,e9O]
 ·unfold b7x;rw [A4];rfl
theorem c60{l:List m4}(h:z7 88 E3 l):b2D l l=some true:=by
 unfold b2D;rw [bne_self_eq_false,cond_false,a6B l (h.fits (by decide))]
 ·rfl
 ·intro k hk;unfold b7V;simp only [x8 _ k hk,cond_true,u0 hk,e9J,cond_false,b1p (h.2 _ (e9M hk)),e9O]
 ·unfold b7V;rw [A4];rfl
theorem c8J{l:List Bool}(h:t8 l):b2E l l=some true:=by
 unfold b2E;rw [bne_self_eq_false,cond_false,a6B l h]
 ·rfl
 ·intro k hk;unfold b8z;simp only [x8 _ k hk,cond_true,u0 hk,e9J,beq_self_eq_true,cond_false,e9O]
 ·unfold b8z;rw [A4];rfl
theorem c9r{l:List o9}(h:t8 l):b2B l l=some true:=by
 unfold b2B b9N;rw [bne_self_eq_false,cond_false,a6B l h]
 ·rfl
 ·intro k hk;unfold b6Z;simp only [x8 _ k hk,cond_true,u0 hk,e9J,beq_self_eq_true,cond_false,e9O]
 ·unfold b6Z;rw [A4];rfl
theorem e4U{l:List m9}(h:t8 l):b8g l l=some true:=by
 unfold b8g;rw [bne_self_eq_false,cond_false,a6B l h]
 ·rfl
 ·intro k hk;unfold b6R;simp only [x8 _ k hk,cond_true,u0 hk,e9J,beq_self_eq_true,cond_false,e9O]
 ·unfold b6R;rw [A4];rfl
theorem e8U{n:j6}(h:Q1 n):b6h n n=some true:=by
 obtain ⟨h1,h2,h3,h4,h5,h6,h7,h8,h9,h10,h11,h12,h13⟩:=h;unfold b6h b89;simp only [beq_self_eq_true,cond_true,c2C h2.2,c60 h3,c8J (h7.fits (by decide)),c2C h8,b1p h9,c8J (h10.fits (by decide)),c9r (h11.fits (by decide)),b1p h12,c60 h13,e9J]
theorem d36{w:m6}(h:a09 w):b5Y w w=some true:=by
 obtain ⟨h1,h2,h3,h4⟩:=h;unfold b5Y b9h c3o;simp only [bne_self_eq_false,cond_false,e4U (h4.fits (by decide)),e9J,e9O];rw [a6B w.a9 (h1.fits (by decide)) (fun k hk=>by
  unfold b72;simp only [x8 _ k hk,cond_true,u0 hk,e9J,e8U (h1.2 _ (e9M hk)),cond_false,e9O]) (by unfold b72;rw [A4];rfl)]
 simp only [e9J,l9.go];rw [a6B w.b9 (h2.fits (by decide)) (fun k hk=>by
  have:=h2.2 _ (e9M hk);unfold b5R c0L;simp only [x8 _ k hk,cond_true,u0 hk,e9J,beq_self_eq_true,b1p this.2.2.2.2.2.1,c2C this.2.2.2.2.2.2,cond_false,e9O]) (by unfold b5R;rw [A4];rfl)]
 simp only [e9J,l9.go];rw [a6B w.d7 (h3.fits (by decide)) (fun k hk=>by
  unfold b4B;simp only [x8 _ k hk,cond_true,u0 hk,e9J,beq_self_eq_true,c9r ((h3.2 _ (e9M hk)).2.fits (by decide)),cond_false,e9O]) (by unfold b4B;rw [A4];rfl)]
 rfl
theorem d1W{a:n7}(h:t8 a.n.a0)(q:q8):b2C a q=some (M2 a.n.a0 q,a):=by
 unfold b2C;rw [b9i h,e9J,c2l];cases a.n.a0.findIdx? (H1 q) with
 | none=>rfl
 | some k=>simp
theorem e01{a:n7}(h:t8 a.n.a0)(q:q8):b3K a q=some (M2 a.n.a0 q,a):=by
 unfold b3K;rw [b9i h,e9J,c2l];cases a.n.a0.findIdx? (H1 q) with
 | none=>rfl
 | some k=>simp
def qA(a:n7)(q:List m4):n7:=⟨{a.n with d9:=q},a.out,a.told⟩
theorem e33{a:n7}{q:List m4}(h:a.n.d9=q):qA a q=a:=by
 subst h;rfl
theorem c8f{known:List m4}(hk:t8 known):∀(q:List m4) (a:n7),a.n.a0=known->z7 88 E3 q->a.n.d9=q->p8 (fun s:n7=>a4c s) a=some (match R4 known q with
  | (q',some e)=>.ret (e,true,qA a q')
  | (q',none)=>.brk (qA a q'))
 | [],a,h1,_,h2=>by
  rw [C6 (body:=fun s:n7=>a4c s) (b:=a) (by unfold a4c;rw [h2];rfl)];show _=some (l9.brk (qA a []))
  rw [e33 h2]
 | e::q,a,h1,hq,h2=>by
  have hl:(e::q).length*88<=140737488351232:=hq.1;rw [f0w] at hl;have hb:a4c a=some (bif M2 known e.a5 then .nxt (qA a q) else .ret (e,true,qA a q)):=by
   unfold a4c;rw [h2,show idx (e::q) 0=some e from rfl,show decide ((((e::q).length:Nat):Int)>0)=true by simp,cond_true,e9J,t9 (by simp;omega),show ((e::q).drop (1:Int).toNat).take ((e::q).length-(1:Int).toNat)=q by simp];rw [show (⟨⟨a.n.Id,a.n.Acc,a.n.a0,a.n.Seq,a.n.d6,a.n.a7,a.n.c8,a.n.g9,a.n.c9,a.n.a6,a.n.i7,a.n.i5,a.n.b7,q⟩,a.out,a.told⟩:n7)=qA a q from rfl,d1W (a:=qA a q) (by show t8 a.n.a0;rw [h1];exact hk),e9J,show (qA a q).n.a0=known from h1];cases M2 known e.a5<;>rfl
  unfold R4;cases hkn:M2 known e.a5
  ·rw [Z4 (body:=fun s:n7=>a4c s) (r:=(e,true,qA a q)) (by rw [hb,hkn];rfl)];rfl
  ·rw [E1 (body:=fun s:n7=>a4c s) (t:=qA a q) (by rw [hb,hkn];rfl),c8f hk q (qA a q) h1 ⟨by omega,fun x hx=>hq.2 x (f1s _ hx)⟩ rfl];rfl
def b2g(a:n7)(x:j6×Option m4):m4×Bool×n7:=match x with
 | (n,some e)=>(e,true,⟨n,a.out,a.told⟩)
 | (n,none)=>(zE,false,⟨n,a.out,a.told⟩)
theorem e0Y{a:n7}(hf:t8 a.n.g9)(hv:∀v∈a.n.g9,0<=v.a7):∀(m k:Nat),a.n.g9.length-k=m->p8 (fun s:Int=>a4a a s) (k:Int)=some (bif (a.n.g9.drop k).any (fun v=>decide (v.a7>0)) then .ret (eN,true,a) else .brk ()):=by
 intro m;induction m with
 | zero =>
  intro k hk;rw [C6 (body:=fun s:Int=>a4a a s) (b:=()) (by unfold a4a;rw [show decide ((k:Int)<(a.n.g9.length:Int))=false by simp;omega];rfl),e91 (by omega)];rfl
 | succ m ih =>
  intro k hk;have hlt:k<a.n.g9.length:=by omega
  have hb:a4a a (k:Int)=some (bif decide (a.n.g9[k].a7>0) then .ret (eN,true,a) else .nxt ((k+1:Nat):Int)):=by
   have h0:=hv _ (e9M hlt);unfold a4a;rw [x8 _ k hlt,cond_true,u0 hlt,e9J,F3 hf hlt,show (a.n.g9[k].a7 != 0)=decide (a.n.g9[k].a7>0) by
    rw [Bool.eq_iff_iff];simp;omega]
   cases decide (a.n.g9[k].a7>0)<;>rfl
  rw [e97 hlt,List.any_cons];cases hd:decide (a.n.g9[k].a7>0)
  ·rw [hd] at hb;rw [E1 (body:=fun s:Int=>a4a a s) hb,ih (k+1) (by omega),f0i]
  ·rw [hd] at hb;rw [Z4 (body:=fun s:Int=>a4a a s) hb,f1c];rfl
theorem e6z{a:n7}(h:Q1 a.n)(hv:∀v∈a.n.g9,0<=v.a7):b5y a=some (b2g a (a0j a.n)):=by
 obtain ⟨h1,h2,h3,h4,h5,h6,h7,h8,h9,h10,h11,h12,h13⟩:=h;have hk:t8 a.n.a0:=h3.fits (by decide);have hbf:t8 a.n.g9:=h8.fits (by decide);have j1:b7h a=some (b2g a ({a.n with d9:=(R4 a.n.a0 a.n.d9).1},(R4 a.n.a0 a.n.d9).2)):=by
  unfold b7h;rw [c8f hk _ a rfl h13 rfl];obtain ⟨q,o⟩:=R4 a.n.a0 a.n.d9;cases o<;>rfl
 have j2:(∀v,a.n.g9[a.n.a0.length]?=some v->¬v.a7>0)->b32 a=some (b2g a (a4m a.n)):=by
  intro hn;have hd:(a.n.g9.drop (a.n.a0.length+1)).any (fun v=>decide (v.a7>0))=(a.n.g9.drop a.n.a0.length).any (fun v=>decide (v.a7>0)):=by
   by_cases hl:a.n.a0.length<a.n.g9.length
   ·rw [e97 hl,List.any_cons,show decide (a.n.g9[a.n.a0.length].a7>0)=false by
     simpa using hn _ (e9K hl),f0i]
   ·rw [e91 (by omega),e91 (by omega)]
  unfold b32 a4m;rw [B9 (by omega) (by have:=h3.1;omega),show ((a.n.a0.length:Int)+1)=((a.n.a0.length+1:Nat):Int) from rfl,e0Y hbf hv _ _ rfl,hd];generalize (({a.n with d9:=(R4 a.n.a0 a.n.d9).1},(R4 a.n.a0 a.n.d9).2):j6×Option m4)=X at j1 ⊢;cases (a.n.g9.drop a.n.a0.length).any fun v=>decide (v.a7>0)
  ·simp only [cond_false,e9J,l9.go];unfold c1G;cases a.n.i7
   ·exact j1
   ·simp only [cond_true,d1W hk,e9J,e93];cases M2 a.n.a0 a.n.b7.a5
    ·rfl
    ·exact j1
  ·rfl
 unfold b5y a0j;by_cases hl:a.n.a0.length<a.n.g9.length
 ·rw [x8 _ _ hl,u0 hl,e9K hl];have h0:=hv _ (e9M hl);rw [cond_true,e9J,show (a.n.g9[a.n.a0.length].a7 != 0)=decide (a.n.g9[a.n.a0.length].a7>0) by rw [Bool.eq_iff_iff];simp;omega];simp only;cases hd:decide (a.n.g9[a.n.a0.length].a7>0)
  ·exact j2 (by rw [e9K hl];intro v hv;injection hv with hv;subst hv;simpa using hd)
  ·rfl
 ·rw [show decide ((a.n.a0.length:Int)<(a.n.g9.length:Int))=false by simp;omega,f0c (by omega)];exact j2 (by rw [f0c (by omega)];simp)
theorem NI.accOk{n:j6}(h:NI n):O0 n.Acc=true/\a5l n.Acc:=by
 have:=a0Q.2 h;unfold C7 at this;simp only [e9N] at this;exact ⟨by simp_all,h.ok.2.1⟩
theorem b7c{a:x6}(h:O0 a=true)(ho:a5l a)(b:Int):a83 a b=some (match G6 a b with|some x=>(x,true)|none=>(a,false)):=by
 unfold a83 G6 a8W;rw [c3J ho,e9J,h,b6C ho,M0];simp only [e9O,cond_false,e9J];cases o7 b 1 3000
 ·rfl
 ·cases hd:decide (b<a.g8)
  ·rw [show decide (a.g8<=b)=true by simp at hd ⊢;omega];rfl
  ·rw [show decide (a.g8<=b)=false by simp at hd ⊢;omega];rfl
theorem e3Q{a:x6}(h:O0 a=true)(ho:a5l a)(b:Int):b9M a b=some (match G6 a b with|some x=>(x,true)|none=>(a,false)):=b7c h ho b
theorem d3l(slot:Nat)(hs:slot<40):∀(m:Nat) (vs:List m7),slot+1-vs.length=m->p8 (fun s:List m7=>a8c (slot:Int) s) vs=some (.brk (Q9 vs (slot+1)))
 | 0,vs,hm=>by
  rw [C6 (body:=fun s:List m7=>a8c (slot:Int) s) (b:=vs) (by unfold a8c;rw [show decide ((vs.length:Int)<=(slot:Int))=false by simp;omega];rfl)];unfold Q9;rw [hm];simp
 | m+1,vs,hm=>by
  rw [E1 (body:=fun s:List m7=>a8c (slot:Int) s) (t:=vs++[v0]) (by unfold a8c;rw [show decide ((vs.length:Int)<=(slot:Int))=true by simp;omega,cond_true,t9 (by omega)];rfl),d3l slot hs m _ (by simp;omega)];unfold Q9;rw [e9T,f0y,show slot+1-vs.length=(slot+1-(vs.length+1))+1 by omega,f1e,e9Y];rfl
theorem c6I{a:x6}(h:O0 a=true)(ho:a5l a)(hl:a.a6.length<=40){b s:Int}(hb:H7 b){e:m4}(he:E3 e):b29 a b s e=some (match J3 a b s e with|some x=>(x,true)|none=>(a,false)):=by
 unfold b29 J3;rw [e3Q h ho,e9J,M0,a6e he.f,b6C ho];cases hp:G6 a b with
 | none=>cases o7 s 0 39&&z3 e<;>rfl
 | some x =>
  obtain ⟨rfl,hb1,hb2,hb3⟩:=a3v hp;simp only [e9O,cond_false,e9J];cases hs:o7 s 0 39
  ·rfl
  cases z3 e
  ·rfl
  obtain ⟨k,rfl⟩:∃k:Nat,s=(k:Int):=⟨s.toNat,by rw [I4] at hs;omega⟩
  rw [I4] at hs;have hlen:=b5v a.a6 (k+1);have hk:k<(Q9 a.a6 (k+1)).length:=by rw [hlen];omega
  simp only [e9O,Bool.and_self,cond_false,cond_true,e9J,f0J,e92];rw [d3l k (by omega) _ _ rfl];simp only [e9J,l9.go,c1f];rw [u0 hk,e9J,e92,b6C (x:=⟨b,(Q9 a.a6 (k+1)).set k ⟨b,e⟩⟩) ⟨hb,Z3 (by rw [f0O,hlen];omega) (by
   intro v hv;rcases List.mem_or_eq_of_mem_set hv with q|q
   ·rcases c2a q with q|q
    ·exact ho.2.2 v q
    ·rw [q];exact c8D
   ·rw [q];exact ⟨hb,he⟩)⟩]
  rfl
theorem a8o{a:n7}(h:a.out.length<=1000)(to:Int)(m:j8):a3A a to m=some ⟨a.n,a.out++[{m with c8:=a.n.Id,To:=to}],a.told⟩:=by
 unfold a3A;rw [t9 (by omega)]
def a0k(m:j8)(a:n7)(t:Int):n7:=bif t != a.n.Id then ⟨a.n,a.out++[{m with c8:=a.n.Id,To:=t}],a.told⟩ else a
theorem c6X(m:j8)(a:n7)(t:Int):(a0k m a t).out.length<=a.out.length+1:=by
 unfold a0k;cases t != a.n.Id<;>simp
theorem a6f{a:n7}(hid:0<=a.n.Id/\a.n.Id<=2)(h:a.out.length<=900)(m:j8):a2r a m=some ⟨a.n,a.out++H2 a.n.Id m,a.told⟩:=by
 have e:∀(a:n7) (t:Int),a.out.length<=1000->0<=t->t<3->a4j m t a=some (.nxt (t+1,a0k m a t)):=by
  intro a t ho h0 h1;unfold a4j c0C a0k;rw [show decide (t<3)=true by simpa using h1,cond_true,a8o ho,B9 (by omega) (by omega)];cases t != a.n.Id<;>rfl
 have l1:=c6X m a 0;have l2:=c6X m (a0k m a 0) (0+1);have h0:=E1 (body:=fun s:Int×n7=>a4j m s.1 s.2) (s:=(0,a)) (e a 0 (by omega) (by omega) (by omega));have h1:=E1 (body:=fun s:Int×n7=>a4j m s.1 s.2) (s:=(0+1,a0k m a 0)) (e (a0k m a 0) (0+1) (by omega) (by omega) (by omega));have h2:=E1 (body:=fun s:Int×n7=>a4j m s.1 s.2) (s:=(0+1+1,a0k m (a0k m a 0) (0+1))) (e (a0k m (a0k m a 0) (0+1)) (0+1+1) (by omega) (by omega) (by omega));have h3:=Z4 (body:=fun s:Int×n7=>a4j m s.1 s.2) (s:=(0+1+1+1,a0k m (a0k m (a0k m a 0) (0+1)) (0+1+1))) (show a4j m (0+1+1+1) _=_ from rfl);unfold a2r;rw [h0,h1,h2,h3];obtain ⟨n,o,t⟩:=a;simp only [e9J,l9.go];have hid':n.Id=0\/n.Id=1\/n.Id=2:=by have:=hid.1;have:=hid.2;simp only at *;omega
 rcases hid' with q|q|q<;>simp [a0k,H2,q]
theorem c8S{a:n7}(h:0<=a.n.Id/\a.n.Id<=2):b1Y a=some (a0G a.n.Id,a):=by
 obtain ⟨y,hy⟩:=c1Y h;unfold b1Y;rw [t9 (by decide),hy];rfl
theorem c10(a:n7):b1E a=some ⟨a3Y a.n,a.out,a.told⟩:=rfl
theorem b4Q(a:n7)(b:Int):a91 a b=some ⟨L8 a.n b,a.out,a.told⟩:=by
 unfold a91 L8;rw [c10];cases a.n.d6 != 0
 ·rfl
 ·cases decide (b>a.n.a7)<;>rfl
theorem a0e.bal0{n:j6}(h:a0e n):∀v∈n.g9,0<=v.a7:=fun v hv=>(h.best.2 v hv).bal.1
def X0(a:n7)(x:j6×List j8):n7:=⟨x.1,a.out++x.2,a.told⟩
theorem a6Y(a:n7):X0 a (a.n,[])=a:=by
 unfold X0;rw [f0m]
theorem b1G{a:n7}(h:NI a.n)(ho:a.out.length<=900):a51 a=some (X0 a (L2 a.n)):=by
 unfold a51 L2;rw [show decide ((a.n.a0.length:Int)>=40)=decide (40<=a.n.a0.length) by simp;omega];cases a.n.d6 != 2
 ·simp only [cond_false,f0i];cases hlt:decide (40<=a.n.a0.length)
  ·simp only [cond_false,e6z h.ok h.ld.bal0,e9J];obtain ⟨q,hq,hql,hqm,hqe⟩:=b0e a.n;cases hx:a0j a.n with
   | mk x o =>
   rw [hx] at hq hqe;have hq:x={a.n with d9:=q}:=hq;subst hq;cases o with
   | none =>
    simp only [b2g,e98,cond_true,X0];rw [f0m]
   | some e =>
    have he:=(hqe e rfl).ok h.ok;obtain ⟨c1,c2⟩:=h.accOk;simp only [b2g,e9O,cond_false];rw [c6I (a:=a.n.Acc) c1 c2 h.vl h.ok.2.2.2.2.2.1 he,e9J];simp only [a5u];cases hc:J3 a.n.Acc a.n.a7 (a.n.a0.length:Int) e with
    | none =>
     simp only [e98,cond_true,c10,e9J,X0];rw [f0m]
    | some x =>
     simp only [e9O,cond_false];rw [c8S (by exact h.id),e9J];simp only;rw [a6f (by exact h.id) (by exact ho)];rfl
  ·simp only [cond_true];rw [a6Y]
 ·simp only [cond_true,f1c];rw [a6Y]
def a2S(a:n7)(x:j6×List j8×List m9):n7:=⟨x.1,a.out++x.2.1,a.told++x.2.2⟩
theorem b7y(a:n7):a2S a (a.n,[],[])=a:=by
 unfold a2S;rw [f0m,f0m]
theorem d4V{a:n7}(h:NI a.n)(ho:a.out.length<=900)(ht:a.told.length<=900):b7q a=some (a2S a ((L2 (S9 a.n).1).1,(L2 (S9 a.n).1).2,(S9 a.n).2)):=by
 have hk:t8 a.n.a0:=h.ok.2.2.1.fits (by decide);obtain ⟨hl,he⟩:=a34 h.list;have j1:∀b:n7,NI b.n->b.out.length<=900->b5r b=some (X0 b (L2 b.n)):=by
  intro b hb hbo;unfold b5r;rw [b1G hb hbo];rfl
 unfold b7q S9;rw [b9i hk,e9J];cases hb:a.n.i7
 ·simp only [cond_false,e9J,l9.go];rw [j1 a h ho];simp only [X0,a2S,f0m]
 ·cases hf:a.n.a0.findIdx? (H1 a.n.b7.a5) with
  | none =>
   simp only [cond_true];rw [show decide ((-1:Int)>=0)=false from rfl];simp only [cond_false,e9J,l9.go];rw [j1 a h ho];simp only [X0,a2S,f0m]
  | some k =>
   obtain ⟨hkl,h1,h2⟩:=b1W hf;have hlen:(z4 a.n.a0).2.length=a.n.a0.length:=by
    have:=(a3w hl he a.n.a0.length (f0d _)).2.1;rwa [f0f] at this
   have hc:idx (z4 a.n.a0).2 (k:Int)=some (T2 a.n.a0 k):=by
    rw [u0 (by omega)];unfold T2;rw [e9K (by omega)];rfl
   have hj2:∀v:Int,b8F a (T2 a.n.a0 k) v=some (.brk ⟨a6d a.n,a.out,a.told++[⟨a.n.Id,a.n.b7.a5,T2 a.n.a0 k,v⟩]⟩):=by
    intro v;unfold b8F;rw [t9 (by omega)];rfl
   have hv:a1i a.n.a0 a.n.b7.a5=a.n.a0[k].b8.f0:=by
    unfold a1i;rw [hf];simp only [e9K hkl]
   simp only [cond_true];rw [show decide ((k:Int)>=0)=true by simp];simp only [cond_true];rw [c9C (okEntries.f h.ok.2.2.1) hl he,e9J,hc,e9J,u0 hkl,hv];cases T2 a.n.a0 k==0
   ·simp only [cond_false,e9J,l9.go,hj2];exact j1 ⟨a6d a.n,a.out,_⟩ h.freeN ho
   ·simp only [cond_true,e9J,l9.go,hj2];exact j1 ⟨a6d a.n,a.out,_⟩ h.freeN ho
theorem c7r{a:n7}(h:NI a.n)(hl:a.n.a0.length<40){e:m4}(he:z3 e=true)(ho:a.out.length<=900)(ht:a.told.length<=900):b1b a e=some (a2S a (U8 a.n e)):=by
 have hk:=d4V (a:=⟨D1 a.n e,a.out,a.told⟩) (h.know he hl) ho ht;unfold b1b;rw [t9 (by omega)];unfold D1 at hk;cases hp:a.n.d6==3
 ·rw [hp] at hk;simp only [cond_false,e9J,l9.go] at hk ⊢;refine hk.trans ?_;unfold U8 D1;rw [hp];rfl
 ·rw [hp] at hk;simp only [cond_true,e9J,l9.go] at hk ⊢;refine hk.trans ?_;unfold U8 D1;rw [hp];rfl
theorem R8.two{m:j8}(h:R8 m)(hk:m.a8=2):(m.a6.length<=40/\∀v∈m.a6,VI v)/\m.g7+m.a6.length<=40:=by
 rcases h with q|q|q|q|q|q|q
 ·omega
 ·exact ⟨q.2.2.2.1,q.2.2.2.2⟩
 all_goals exact absurd q.1 (by omega)
theorem R8.five{m:j8}(h:R8 m)(hk:m.a8=5):m.g7<40/\z3 m.i0=true:=by
 rcases h with q|q|q|q|q|q|q
 ·omega
 ·omega
 ·omega
 ·exact ⟨q.2.2.1,q.2.2.2.1⟩
 all_goals exact absurd q.1 (by omega)
theorem e9r{a:n7}(h:NI a.n){m:j8}(hm:MI m)(ho:a.out.length<=900)(hto:m.To=a.n.Id):b8a a m=some (X0 a (a1p a.n m)):=by
 obtain ⟨c1,c2⟩:=h.accOk;have hs:=hm.sl;unfold b8a a1p;rw [b7c c1 c2,e9J];cases hp:G6 a.n.Acc m.a7 with
 | none =>
  simp only [e98,cond_true];rw [a8o (by omega)];simp only [e9J,X0,L5,hto]
 | some x =>
  obtain ⟨rfl,_⟩:=a3v hp;simp only [e9O,cond_false,b4Q,e9J];have hy:∀(n:j6) (vs:List m7),n.Id=a.n.Id->b4x m ⟨n,a.out,a.told⟩ vs=some ⟨n,a.out++[L5 m ⟨2,0,0,m.a7,m.g7,zE,vs⟩],a.told⟩:=by
   intro n vs hn;unfold b4x;rw [a8o (a:=⟨n,a.out,a.told⟩) (by exact Nat.le_trans ho (by decide))];simp only [e9J,L5,hto,hn]
  have hid:(L8 (⟨a.n.Id,⟨m.a7,a.n.Acc.a6⟩,a.n.a0,a.n.Seq,a.n.d6,a.n.a7,a.n.c8,a.n.g9,a.n.c9,a.n.a6,a.n.i7,a.n.i5,a.n.b7,a.n.d9⟩) m.a7).Id=a.n.Id:=a6o _ _;obtain ⟨k,hk⟩:∃k:Nat,m.g7=(k:Int):=⟨m.g7.toNat,by omega⟩
  cases hd:decide (m.g7<(a.n.Acc.a6.length:Int))
  ·simp only [cond_false,e9J,l9.go];rw [hy _ _ hid,e91 (by simp at hd;omega)];rfl
  ·simp only [cond_true];rw [t9 (by simp at hd;omega)];simp only [e9J,l9.go];rw [hy _ _ hid,c1c];rfl
theorem e4I{a:n7}(h:NI a.n){m:j8}(hm:MI m)(ho:a.out.length<=900)(hto:m.To=a.n.Id):b8E a m=some (X0 a (a1m a.n m)):=by
 obtain ⟨c1,c2⟩:=h.accOk;unfold b8E a1m;rw [c6I c1 c2 h.vl hm.ok.2.2.2.1 hm.ok.2.2.2.2.2.1,e9J];cases J3 a.n.Acc m.a7 m.g7 m.i0 with
 | none =>
  simp only [e98,cond_true];rw [a8o (by omega)];simp only [e9J,X0,L5,hto]
 | some x =>
  simp only [e9O,cond_false,b4Q,e9J];rw [a8o (by simp only;omega)];simp only [e9J,X0,L5,hto,a6o]
theorem c9U:∀(l:List Bool) (hl:t8 l) (m k:Nat) (c:Int),k+m=l.length->0<=c->c<=k->p8 (fun s:Int×Int=>a4H l s.1 s.2) (c,(k:Int))=some (.brk (c+(((l.drop k).filter (· == true)).length:Int)))
 | l,hl,0,k,c,hk,h0,h1=>by
  have:k=l.length:=by omega
  subst this;rw [C6 (body:=fun s:Int×Int=>a4H l s.1 s.2) (b:=c) (by unfold a4H;rw [A4];rfl)];simp
 | l,hl,m+1,k,c,hk,h0,h1=>by
  have hlt:k<l.length:=by omega
  have hf:=hl;unfold t8 at hf;have hb:a4H l c (k:Int)=some (.nxt (bif l[k] then c+1 else c,((k+1:Nat):Int))):=by
   unfold a4H c2F;rw [x8 _ k hlt,cond_true,u0 hlt,e9J,F3 hl hlt,B9 (by omega) (by omega)];cases l[k]<;>rfl
  rw [E1 (body:=fun s:Int×Int=>a4H l s.1 s.2) hb,c9U l hl m (k+1) _ (by omega) (by cases l[k]<;>simp<;>omega) (by cases l[k]<;>simp<;>omega),e97 hlt];cases l[k]<;>simp<;>omega
theorem d2b{l:List Bool}(h:t8 l):∃c,b0T l=some c/\decide (c>=2)=M1 l:=by
 unfold b0T;rw [show p8 (fun s:Int×Int=>a4H l s.1 s.2) (0,0)=_ from c9U l h l.length 0 0 (by omega) (by omega) (by omega)];refine ⟨_,rfl,?_⟩;unfold M1;rw [Bool.eq_iff_iff];simp only [f0N,decide_eq_true_eq];omega
theorem e6v{a b:List m7}(ha:a.length<=40/\∀v∈a,VI v)(hb:b.length<=40/\∀v∈b,VI v):b4O a b=some (C8 a b):=by
 have oa:=a3V (by omega) ha.2;have ob:=a3V (by omega) hb.2;have hlen:=a7o a b;have hok:z7 96 R2 (C8 a b):=a3V (by omega) fun v hv=>(a8Z hv).elim (ha.2 v) (hb.2 v)
 unfold b4O;rw [b2z oa,e9J,a7v.2 ha,b2z ob,e9J,a7v.2 hb];simp only [e9O,cond_false];rw [a5L (body:=fun s:(List m7)×Int=>a5X a b s.1 s.2) (C8 a b) (by unfold t8;omega) (fun l=>l) (by
  intro k hk;have hget:=b0c a b k;rw [e9K hk] at hget;have hj1:∀l:List m7,c2T (k:Int) l=some (.nxt (l,m8 ((k:Int)+1))):=fun _=>rfl
  have htl:(((C8 a b).take k).length+1)*96<=140737488355328:=by rw [e96];omega
  show a5X a b ((C8 a b).take k) (k:Int)=_
  have hstart:a5X a b ((C8 a b).take k) (k:Int)=b4D a b ((C8 a b).take k) (k:Int):=by
   unfold a5X;by_cases h1:k<a.length
   ·rw [x8 _ k h1];rfl
   ·rw [show decide ((k:Int)<(a.length:Int))=false by simp;omega,x8 _ k (by omega)];rfl
  rw [hstart];unfold b4D;by_cases h1:k<a.length
  ·rw [show decide ((k:Int)>=(a.length:Int))=false by simp;omega,u0 h1];rw [e9K h1] at hget;by_cases h2:k<b.length
   ·rw [show decide ((k:Int)>=(b.length:Int))=false by simp;omega,u0 h2];rw [e9K h2] at hget;injection hget with hget;simp only [cond_false,e9J,t9 htl];rw [hget,show decide (a[k].a7>=b[k].a7) = !decide (b[k].a7>a[k].a7) by rw [Bool.eq_iff_iff];simp];cases decide (b[k].a7>a[k].a7)<;>rfl
   ·rw [show decide ((k:Int)>=(b.length:Int))=true by simp;omega];rw [f0c (by omega)] at hget;injection hget with hget;simp only [cond_false,cond_true,e9J,t9 htl];rw [hget];rfl
  ·have h2:k<b.length:=by omega
   rw [show decide ((k:Int)>=(a.length:Int))=true by simp;omega,u0 h2];rw [f0c (by omega),e9K h2] at hget;injection hget with hget;simp only [cond_true,e9J,t9 htl];rw [hget];rfl) (by
  show a5X a b (C8 a b) ((C8 a b).length:Int)=_
  unfold a5X;rw [show decide (((C8 a b).length:Int)<(a.length:Int))=false by simp;omega,show decide (((C8 a b).length:Int)<(b.length:Int))=false by simp;omega];rfl)]
 simp only [e9J,l9.go,c3i,b5n hok]
theorem d3W{a:n7}(h:NI a.n){m:j8}(hm:MI m)(hk:m.a8=2)(ho:a.out.length<=900):b4b a m=some (X0 a (a1B a.n m)):=by
 have hkd:=hm.kd.two hk;have hs:=hm.sl;have hf:=hm.fr;have hright:=c0t h hm hk;unfold b4b;unfold a1B at hright ⊢;by_cases p1:a.n.d6=1
 ·rw [show (a.n.d6 != 1)=false by simp [p1],f0i] at hright;rw [show (a.n.d6 != 1)=false by simp [p1],f0i];cases hb:m.a7 != a.n.a7
  ·rw [hb] at hright;simp only [cond_false] at hright ⊢;have hl:a.n.c8.length=3/\Own a.n:=by
    rcases h.ld with q|q|q|q
    ·omega
    ·exact ⟨q.2.2.1,q.2.1⟩
    all_goals exact absurd q.1 (by omega)
   obtain ⟨f,hff⟩:∃f:Nat,m.c8=(f:Int):=⟨m.c8.toNat,by omega⟩
   have hvo:(e9L m.g7.toNat v0++m.a6).length<=40/\∀v∈e9L m.g7.toNat v0++m.a6,VI v:=⟨by simp;omega,fun v hv=>(List.mem_append.1 hv).elim (fun q=>by rw [(f0n.1 q).2];exact .inl rfl) (hkd.1.2 v)⟩
   obtain ⟨c,c1,c2⟩:=d2b (l:=a.n.c8.set (f:Int).toNat true) (b6y (by simp;omega));rw [hff] at hright;rw [hff,u0 (show f<a.n.c8.length by omega),e9J,t9 (by omega),t9 (by simp;omega),show (⟨0,⟨false,⟨0,0⟩,⟨[],[],0,0⟩⟩⟩:m7)=v0 from rfl,e6v ⟨hl.2.bl,hl.2.bs⟩ hvo,e9J,c1,e9J,c2];cases htw:M1 (a.n.c8.set (f:Int).toNat true)
   ·simp only [cond_false,X0];rw [f0m]
   ·rw [htw] at hright;simp only [cond_true] at hright ⊢;have hni:NI ⟨a.n.Id,a.n.Acc,a.n.a0,a.n.Seq,2,a.n.a7,[],C8 a.n.g9 (e9L m.g7.toNat v0++m.a6),a.n.c9,a.n.a6,a.n.i7,a.n.i5,a.n.b7,a.n.d9⟩:=by
     rcases h.ld with q|q|q|q
     ·omega
     ·exact ⟨h.id,h.pr,h.vl,h.vs,h.kl,h.ks,h.sq,h.ql,h.qs,.inr (.inr (.inl ⟨rfl,⟨q.2.1.b1,q.2.1.b2,q.2.1.mod,q.2.1.pr,by have:=a7o a.n.g9 (e9L m.g7.toNat v0++m.a6);have:=hl.2.bl;have:=hvo.1;simp only at *;omega,fun v hv=>(a8Z hv).elim (hl.2.bs v) (hvo.2 v)⟩,rfl,q.2.2.2.2.1,q.2.2.2.2.2⟩)),h.wt⟩
     all_goals exact absurd q.1 (by omega)
    rw [b1G (a:=⟨⟨a.n.Id,a.n.Acc,a.n.a0,a.n.Seq,2,a.n.a7,[],C8 a.n.g9 (e9L m.g7.toNat v0++m.a6),a.n.c9,a.n.a6,a.n.i7,a.n.i5,a.n.b7,a.n.d9⟩,a.out,a.told⟩) hni ho];rfl
  ·simp only [cond_true,cond_false];rw [a6Y]
 ·rw [show (a.n.d6 != 1)=true by simpa using p1];simp only [cond_true,f1c];rw [a6Y]
theorem e4Y{a:n7}(h:NI a.n){m:j8}(hm:MI m)(ho:a.out.length<=800)(ht:a.told.length<=800):b6k a m=some (a2S a (a1V a.n m)):=by
 have hf:=hm.fr;unfold b6k a1V;by_cases p3:a.n.d6=3
 ·rw [show (a.n.d6 != 3)=false by simp [p3],f0i];cases hb:m.a7 != a.n.a7
  ·simp only [cond_false,f0i];cases hs:m.g7 != (a.n.a0.length:Int)
   ·simp only [cond_false];have hsl:m.g7=(a.n.a0.length:Int):=by simpa using hs
    obtain ⟨q1,q2,q3,q4,q5,q6,q7⟩:a.n.d6=3/\Own a.n/\a.n.c8=[]/\z3 a.n.c9=true/\a.n.a6.length=3/\a.n.a6[a.n.Id.toNat]?=some true/\a.n.a0.length<40:=by
     rcases h.ld with q|q|q|q
     ·omega
     ·omega
     ·omega
     ·exact q
    obtain ⟨f,hff⟩:∃f:Nat,m.c8=(f:Int):=⟨m.c8.toNat,by omega⟩
    obtain ⟨c,c1,c2⟩:=d2b (l:=a.n.a6.set (f:Int).toNat true) (b6y (by simp;omega));rw [hff,u0 (show f<a.n.a6.length by omega),e9J,c1,e9J,c2];cases htw:M1 (a.n.a6.set (f:Int).toNat true)
    ·simp only [cond_false,a2S,f0m]
    ·simp only [cond_true];have hid:=h.id;have hni:NI ⟨a.n.Id,a.n.Acc,a.n.a0,a.n.Seq,a.n.d6,a.n.a7,a.n.c8,a.n.g9,a.n.c9,a.n.a6.set (f:Int).toNat true,a.n.i7,a.n.i5,a.n.b7,a.n.d9⟩ :=
      ⟨h.id,h.pr,h.vl,h.vs,h.kl,h.ks,h.sq,h.ql,h.qs,.inr (.inr (.inr ⟨q1,q2,q3,q4,by simpa using q5,by
       show (a.n.a6.set f true)[a.n.Id.toNat]?=some true
       rw [f02];split
       ·rw [if_pos (by omega)]
       ·exact q6,q7⟩)),h.wt⟩
     have l1:=a0i a.n.Id ⟨5,0,0,0,m.g7,a.n.c9,[]⟩;rw [a6f (by exact hid) (by simp only;omega),e9J];simp only;rw [c7r (a:=⟨⟨a.n.Id,a.n.Acc,a.n.a0,a.n.Seq,a.n.d6,a.n.a7,a.n.c8,a.n.g9,a.n.c9,a.n.a6.set (f:Int).toNat true,a.n.i7,a.n.i5,a.n.b7,a.n.d9⟩,a.out++H2 a.n.Id ⟨5,0,0,0,m.g7,a.n.c9,[]⟩,a.told⟩) hni q7 q4 (by simp only [e9T];omega) (by simp only;omega),e9J,hsl];simp only [a2S,e9Y]
   ·simp only [cond_true];rw [b7y]
  ·simp only [cond_true,cond_false,f1c];rw [b7y]
 ·rw [show (a.n.d6 != 3)=true by simpa using p3];simp only [cond_true,f1c];rw [b7y]
theorem d8z{a:n7}(h:NI a.n){m:j8}(hm:MI m)(hk:m.a8=5)(ho:a.out.length<=800)(ht:a.told.length<=800)(hto:m.To=a.n.Id):b6E a m=some (a2S a (a1X a.n m)):=by
 have hkd:=hm.kd.five hk;unfold b6E a1X;cases h1:decide (m.g7<(a.n.a0.length:Int))
 ·cases h2:decide (m.g7>(a.n.a0.length:Int))
  ·simp only [cond_false];have hl:a.n.a0.length<40:=by simp at h1 h2;omega
   rw [c7r h hl hkd.2 (by omega) (by omega)];rfl
  ·simp only [cond_false,cond_true];rw [a8o (by omega)];simp only [e9J,a2S,L5,hto,f0m]
 ·simp only [cond_true];rw [b7y]
theorem e9j{a:n7}(h:NI a.n){m:j8}(hm:MI m)(hk:m.a8=7)(ho:a.out.length<=800):b7T a m=some (X0 a (a1k a.n m)):=by
 have hql:=h.ql;obtain ⟨e1,e2⟩:z3 m.i0=true/\m.i0.i8=false:=by
  rcases hm.kd with q|q|q|q|q|q|q
  ·omega
  ·omega
  ·omega
  ·omega
  ·omega
  ·exact ⟨q.2.2.2.1,q.2.2.2.2.1⟩
  ·omega
 unfold b7T a1k;rw [show decide ((a.n.d9.length:Int)>=4)=decide (4<=a.n.d9.length) by simp;omega,e01 (h.ok.2.2.1.fits (by decide))];cases a.n.d6==0
 ·simp only [cond_false,f0i];cases h4:decide (4<=a.n.d9.length)
  ·simp only [cond_false,f0i,e9J];cases M2 a.n.a0 m.i0.a5
   ·simp only [cond_false];have hni:NI {a.n with d9:=a.n.d9++[m.i0]}:=h.queue (by simp at h4 ⊢;omega) (by
     intro e he;rcases List.mem_append.1 he with q|q
     ·exact h.qs e q
     ·rw [e9Q.1 q];exact ⟨e1,e2⟩)
    rw [t9 (by omega),b1G (a:=⟨{a.n with d9:=a.n.d9++[m.i0]},a.out,a.told⟩) hni (by simp only;omega)];rfl
   ·simp only [cond_true];rw [a6Y]
  ·simp only [cond_true,f1c];rw [a6Y]
 ·simp only [cond_true,f1c];rw [a6Y]
theorem b8s{n:j6}(h:NI n):a8w n=some ⟨n,[],[]⟩:=by
 unfold a8w;rw [b4n h.ok];rfl
theorem d4Z{l:List j8}(hl:l.length<=1000)(h:∀m∈l,MI m):z7 152 a0b l:=Z3 (by omega) fun m hm=>(h m hm).ok
theorem c2p{a:n7}(h:NI a.n)(ho:a.out.length<=1000)(hm:∀m∈a.out,MI m)(ht:a.told.length<=1000):a1l a=some (a.n,a.out,a.told,a):=by
 unfold a1l;rw [b4n h.ok,e9J,d2B (d4Z ho hm),e9J,c8p (by omega)];rfl
theorem b9n{n:j6}{x:j6×List j8}(h:P7 n x)(hl:x.2.length<=1000):a1l ⟨x.1,x.2,[]⟩=some (x.1,x.2,[],⟨x.1,x.2,[]⟩):=c2p h.ni hl h.ms (by simp)
theorem c0e(l:List q9)(prog:List o9):∀(f k:Nat) (regs:List Int) (rs:List p9) (ps:List n9),(a1O l prog f k regs rs ps).Code≠3
 | 0,_,_,_,_=>by simp [a1O]
 | f+1,k,regs,rs,ps=>by
  unfold a1O;cases prog[k]? with
  | none=>simp
  | some i =>
   simp only;cases i.a8==6
   ·cases i.a8==7
    ·cases (I2 l i regs rs ps).1.all I9
     ·simp
     ·exact c0e l prog f _ _ _ _
    ·simp
   ·exact c0e l prog f _ _ _ _
theorem e0a{l:List q9}(hb:F6 l=true)(p:List o9):((D4 l p).Code==3) = !D5 p:=by
 unfold D4;rw [hb,e93];cases D5 p
 ·rfl
 ·simpa using c0e l p _ _ _ _ _
theorem d7Y{n:j6}(h:NI n):b7S n=some (z4 n.a0).1:=by
 unfold b7S;rw [a8v h.ok,e9J,a0Q.2 h];simp only [e9O,cond_false];rw [c8k (okEntries.f h.ok.2.2.1),h.list];rfl
theorem c46{prog:List o9}(h:z7 32 okT prog):t8 prog:=h.fits (by decide)
theorem e0b{n:j6}(h:NI n){prog:List o9}(hp:z7 32 okT prog):b8p n prog=some ((J4 n prog).1,(J4 n prog).2,[]):=by
 have hf:=c46 hp;have hs:=h.sq;have hr:=a80 h hf;have hlen:=b9E n prog;have e0:=c2p (a:=⟨n,[],[]⟩) h (by simp) (by simp) (by simp);rw [a2f] at hr hlen;unfold b8p;rw [a8v h.ok,e9J,a0Q.2 h,b8s h,a2f,b7s hf,d7Y h];simp only [e9O,cond_false,e9J];have hc:((D4 (a19 n) prog).Code==3) = !D5 prog:=e0a (b6m h) prog;rw [show (z4 n.a0).1.i4=a19 n from rfl,d21 (a4l (b6m h)) hf];unfold J5 at hr hlen ⊢;rw [hc] at hr hlen ⊢;cases hb:n.i7
 ·cases hq:n.Seq==1000
  ·cases hpo:D5 prog
   ·simp only [e98,cond_true,cond_false,e0,e9J];rfl
   ·rw [hb,hq,hpo] at hr hlen;have hca:J5 n prog=true:=by unfold J5;rw [hc,hb,hq,hpo];rfl
    have hn:=h.asked hf hca;simp only [e9O,e98,Bool.or_false,cond_true,cond_false,e9J] at hr hlen ⊢;rw [B9 (by omega) (by omega)];have ha:(⟨⟨n.Id,n.Acc,n.a0,n.Seq+1,n.d6,n.a7,n.c8,n.g9,n.c9,n.a6,true,prog,⟨false,⟨n.Id,n.Seq+1⟩,D4 (a19 n) prog⟩,n.d9⟩,[],[]⟩:n7)=⟨N9 n prog,[],[]⟩:=rfl;have hj:∀x:j6×List j8,P7 n x->x.2.length<=3->b78 ⟨x.1,x.2,[]⟩=some (x.1,x.2,[]):=by
     intro x hx hl;unfold b78;rw [b9n hx (by omega)];rfl
    rw [ha];cases h2:n.d6==2
    ·rw [h2] at hr hlen;cases h0:n.d6==0
     ·rw [h0] at hr hlen;simp only [cond_false,e9J,l9.go] at hr hlen ⊢;exact hj _ hr hlen
     ·rw [h0] at hr hlen;simp only [cond_false,cond_true] at hr hlen ⊢;rw [a6f (a:=⟨N9 n prog,[],[]⟩) (by exact h.id) (by simp)];simp only [e9J,l9.go,f0r];exact hj (N9 n prog,_) hr hlen
    ·rw [h2] at hr hlen;simp only [cond_true] at hr hlen ⊢;rw [b1G (a:=⟨N9 n prog,[],[]⟩) hn (by simp)];simp only [e9J,l9.go,X0,f0r];exact hj _ hr hlen
  ·simp only [cond_true,cond_false,e0,e9J];rfl
 ·simp only [cond_true,e0,e9J];rfl
theorem d5l{b who:Int}(hb:0<=b/\b<=3000)(hw:0<=who/\who<=2):b3T b who=some (L6 b who):=by
 have e:∀i:Int,1<=i->i<=4->a10 who (b+i)=some (bif decide (b+i<=3000) then (bif e99 (b+i) 3==who then .ret (b+i) else .nxt (b+(i+1))) else .brk ()):=by
  intro i h1 h3;unfold a10;rw [show decide (b+i>0)=true by simp;omega,c5f,B9 (by omega) (by omega),Int.add_assoc];cases hd:decide (b+i<=3000)
  ·rfl
  ·rw [show Y0 (b+i)=e99 (b+i) 3 by
    unfold Y0;rw [I4.2 ⟨by omega,by simpa using hd⟩];rfl]
   simp only [cond_true,e9J];cases e99 (b+i) 3==who<;>rfl
 have hmod:∀i:Int,1<=i->e99 (b+i) 3=(b+i) % 3:=fun i hi=>Int.tmod_eq_emod_of_nonneg (by omega)
 have e1:=e 1 (by omega) (by omega);have e2:=e 2 (by omega) (by omega);have e3:=e 3 (by omega) (by omega);have m1:=hmod 1 (by omega);have m2:=hmod 2 (by omega);have m3:=hmod 3 (by omega);unfold b3T L6;rw [show decide (b<0)=false by simp;omega,M0,show o7 who 0 2=true from I4.2 hw,B9 (by omega) (by omega)];simp only [cond_false,e9J,e9O];cases q1:decide (b+1<=3000)
 ·rw [q1] at e1;rw [C6 (body:=fun s:Int=>a10 who s) e1,show decide (b+2<=3000)=false by simp at q1 ⊢;omega,show decide (b+3<=3000)=false by simp at q1 ⊢;omega];rfl
 rw [q1] at e1;cases t1:e99 (b+1) 3==who;case true=>rw [t1] at e1;rw [Z4 (body:=fun s:Int=>a10 who s) e1];rfl
 rw [t1] at e1;rw [E1 (body:=fun s:Int=>a10 who s) e1];cases q2:decide (b+2<=3000)
 ·rw [show (1:Int)+1=2 from rfl];rw [q2] at e2;rw [C6 (body:=fun s:Int=>a10 who s) e2,show decide (b+3<=3000)=false by simp at q2 ⊢;omega];rfl
 rw [q2] at e2;rw [show (1:Int)+1=2 from rfl];cases t2:e99 (b+2) 3==who;case true=>rw [t2] at e2;rw [Z4 (body:=fun s:Int=>a10 who s) e2];rfl
 rw [t2] at e2;rw [E1 (body:=fun s:Int=>a10 who s) e2,show (2:Int)+1=3 from rfl];cases q3:decide (b+3<=3000)
 ·rw [q3] at e3;rw [C6 (body:=fun s:Int=>a10 who s) e3];rfl
 rw [q3] at e3;have t3:(e99 (b+3) 3==who)=true:=by
  simp only [beq_eq_false_iff_ne,beq_iff_eq] at t1 t2 ⊢;omega
 rw [t3] at e3;rw [Z4 (body:=fun s:Int=>a10 who s) e3,t3];rfl
theorem d6n{n:j6}(h:NI n):b4L n=some (V3 n):=by
 have hr:=b0n h;have hl:=b61 n;have hj:∀x:j6×List j8,P7 n x->x.2.length<=3->b2i ⟨x.1,x.2,[]⟩=some x:=by
  intro x hx hl;unfold b2i;rw [b9n hx (by omega)];rfl
 unfold b4L;unfold V3 at hr hl ⊢;rw [a8v h.ok,e9J,a0Q.2 h,b8s h,d5l h.pr h.id];simp only [e9O,cond_false,e9J];cases hd:decide (L6 n.Acc.g8 n.Id<0)
 ·rw [hd] at hr hl;simp only [decide_eq_false_iff_not] at hd;obtain ⟨c1,c2⟩:=h.accOk;rcases b4d h.pr h.id with q|⟨q1,q2,q3,q4⟩
  ·omega
  ·have hpr:=h.pr;rw [show decide (L6 n.Acc.g8 n.Id>=0)=true by simp;omega];simp only [cond_true,cond_false,c10,e9J] at hr hl ⊢;rw [b7c (a:=(a3Y n).Acc) c1 c2,show G6 (a3Y n).Acc (L6 n.Acc.g8 n.Id)=some ⟨L6 n.Acc.g8 n.Id,n.Acc.a6⟩ from b7Y (a:=n.Acc) (by omega) q3 (by omega),e9J,c8S (by exact h.id),e9J];simp only;have ha:=a6f (a:=⟨⟨n.Id,⟨L6 n.Acc.g8 n.Id,n.Acc.a6⟩,n.a0,n.Seq,1,L6 n.Acc.g8 n.Id,a0G n.Id,n.Acc.a6,zE,[],n.i7,n.i5,n.b7,n.d9⟩,[],[]⟩) h.id (by simp) ⟨1,0,0,L6 n.Acc.g8 n.Id,(n.a0.length:Int),zE,[]⟩;refine (congrArg (fun x:Option n7=>((x.bind fun all=>some (l9.brk all)).bind fun x:l9 (j6×List j8) n7=>x.go some fun j=>b2i j)) ha).trans ?_;simp only [e9J,l9.go,f0r];have e:=hj _ hr hl;exact e
 ·rw [hd] at hr hl;rw [show decide (L6 n.Acc.g8 n.Id>=0)=false by simp at hd ⊢;omega];simp only [cond_false,cond_true,e9J,l9.go] at hr hl ⊢;exact hj (n,[]) hr hl
theorem d68{n:j6}(h:NI n):b5J n=some ((U0 n).1,(U0 n).2,[]):=by
 have hr:=b0j h;have hl:=b9I n;have hj:∀x:j6×List j8,P7 n x->x.2.length<=6->b68 ⟨x.1,x.2,[]⟩=some (x.1,x.2,[]):=by
  intro x hx hl;unfold b68;rw [b9n hx (by omega)];rfl
 have l0:=a0i n.Id ⟨8,0,0,0,(n.a0.length:Int),zE,[]⟩;unfold b5J;unfold U0 at hr hl ⊢;rw [a8v h.ok,e9J,a0Q.2 h,b8s h];simp only [e9O,cond_false,e9J];rw [a6f (a:=⟨n,[],[]⟩) (by exact h.id) (by simp)];simp only [e9J,f0r];have l1:(H2 n.Id ⟨8,0,0,0,(n.a0.length:Int),⟨false,⟨0,0⟩,⟨[],[],0,0⟩⟩,[]⟩).length<=3:=l0;cases h1:n.d6==1
 ·cases h2:n.d6==2
  ·cases h3:n.d6==3
   ·cases hbz:n.i7
    ·rw [h1,h2,h3,hbz] at hr hl;simp only [cond_false,e9J,l9.go] at hr hl ⊢;have e:=hj _ hr hl;exact e
    ·rw [h1,h2,h3,hbz] at hr hl;simp only [cond_false,cond_true] at hr hl ⊢;rw [a6f (by exact h.id) (by simp only;omega)];simp only [e9J,l9.go];have e:=hj _ hr hl;exact e
   ·rw [h1,h2,h3] at hr hl;simp only [cond_false,cond_true] at hr hl ⊢;rw [a6f (by exact h.id) (by simp only;omega)];simp only [e9J,l9.go];have e:=hj _ hr hl;exact e
  ·rw [h1,h2] at hr hl;simp only [cond_false,cond_true] at hr hl ⊢;rw [b1G (by exact h) (by simp only;omega)];simp only [e9J,l9.go];have e:=hj _ hr hl;exact e
 ·rw [h1] at hr hl;simp only [cond_true] at hr hl ⊢;rw [a6f (by exact h.id) (by simp only;omega)];simp only [e9J,l9.go];have e:=hj _ hr hl;exact e
theorem d50{n:j6}(h:NI n):b46 n=some (a0J n):=by
 unfold b46;rw [a8v h.ok,e9J,a0Q.2 h];simp only [e9O,cond_false];rw [show (⟨n.Id,n.Acc,n.a0,n.Seq,0,0,[],[],⟨false,⟨0,0⟩,⟨[],[],0,0⟩⟩,[],false,[],⟨false,⟨0,0⟩,⟨[],[],0,0⟩⟩,[]⟩:j6)=a0J n from rfl,b4n h.fall.ok];rfl
theorem c9Z{n:j6}(h:NI n){m:j8}(hto:m.To=n.Id):∀(d k:Nat) (o:List j8),n.a0.length-k=d->o.length<=k->p8 (fun s:Int×n7=>a5B m s.1 s.2) ((k:Int),⟨n,o,[]⟩)=some (.brk ⟨n,o++((e9U d).map fun j=>a0V n m (k+j)).flatten,[]⟩)
 | 0,k,o,hd,ho=>by
  have hkl:=h.kl;refine (C6 (body:=fun s:Int×n7=>a5B m s.1 s.2) (b:=⟨n,o,[]⟩) ?_).trans (by simp);unfold a5B;rw [show decide ((k:Int)<(n.a0.length:Int))=false by simp;omega];rfl
 | d+1,k,o,hd,ho=>by
  have hkl:=h.kl;have hlt:k<n.a0.length:=by omega
  have hb:a5B m (k:Int) ⟨n,o,[]⟩=some (.nxt (((k+1:Nat):Int),⟨n,o++a0V n m k,[]⟩)):=by
   unfold a5B;rw [x8 _ k hlt,cond_true];simp only;rw [u0 hlt,e9J,a8o (by simp only;omega),b3S m hlt,F3 (h.ok.2.2.1.fits (by decide)) hlt];simp only [e9J,L5,hto]
  rw [E1 (body:=fun s:Int×n7=>a5B m s.1 s.2) (s:=((k:Int),⟨n,o,[]⟩)) hb,c9Z h hto d (k+1) _ (by omega) (by rw [b3S m hlt];simp;omega)];rw [List.range_succ_eq_map,f0e,f0a,e9Y,f1k];simp only [f00,Function.comp_def,Nat.succ_eq_add_one,Nat.add_assoc,Nat.add_comm 1]
theorem e9m{n:j6}(h:NI n){m:j8}(hm:MI m)(hto:m.To=n.Id):b7Q n m=some (U4 n m):=by
 have hr:=b0F h hm;have hl:=b7z h m;have hj:∀x:j6×List j8×List m9,a6u n x->x.2.1.length<=60->x.2.2.length<=1->b4z ⟨x.1,x.2.1,x.2.2⟩=some x:=by
  intro x hx h1 h2;unfold b4z;rw [c2p hx.ni (by simp only;omega) hx.ms (by simp only;omega)];rfl
 have hz:NI (⟨n,[],[]⟩:n7).n:=h;unfold b7Q;unfold U4 at hr hl ⊢;rw [a8v h.ok,e9J,a0Q.2 h,b8s h,c9n hm.ok,c50.2 hm,show (m.To != n.Id)=false by simpa using hto];simp only [e9O,cond_false,e9J];by_cases k1:m.a8=1
 ·rw [show (m.a8==1)=true by simpa using k1] at hr hl ⊢;simp only [cond_true] at hr hl ⊢;rw [e9r (a:=⟨n,[],[]⟩) h hm (by simp) hto];have e:=hj _ hr hl.1 hl.2;exact e
 rw [show (m.a8==1)=false by simpa using k1] at hr hl ⊢;by_cases k2:m.a8=2
 ·rw [show (m.a8==2)=true by simpa using k2] at hr hl ⊢;simp only [cond_true,cond_false] at hr hl ⊢;rw [d3W (a:=⟨n,[],[]⟩) h hm k2 (by simp)];have e:=hj _ hr hl.1 hl.2;exact e
 rw [show (m.a8==2)=false by simpa using k2] at hr hl ⊢;by_cases k3:m.a8=3
 ·rw [show (m.a8==3)=true by simpa using k3] at hr hl ⊢;simp only [cond_true,cond_false] at hr hl ⊢;rw [e4I (a:=⟨n,[],[]⟩) h hm (by simp) hto];have e:=hj _ hr hl.1 hl.2;exact e
 rw [show (m.a8==3)=false by simpa using k3] at hr hl ⊢;by_cases k4:m.a8=4
 ·rw [show (m.a8==4)=true by simpa using k4] at hr hl ⊢;simp only [cond_true,cond_false] at hr hl ⊢;rw [e4Y (a:=⟨n,[],[]⟩) h hm (by simp) (by simp)];have e:=hj _ hr hl.1 hl.2;exact e
 rw [show (m.a8==4)=false by simpa using k4] at hr hl ⊢;by_cases k5:m.a8=5
 ·rw [show (m.a8==5)=true by simpa using k5] at hr hl ⊢;simp only [cond_true,cond_false] at hr hl ⊢;rw [d8z (a:=⟨n,[],[]⟩) h hm k5 (by simp) (by simp) hto];have e:=hj _ hr hl.1 hl.2;exact e
 rw [show (m.a8==5)=false by simpa using k5] at hr hl ⊢;by_cases k6:m.a8=6
 ·rw [show (m.a8==6)=true by simpa using k6] at hr hl ⊢;obtain ⟨c1,c2⟩:=h.accOk;simp only [cond_true,cond_false] at hr hl ⊢;rw [b7c c1 c2];cases hp:G6 n.Acc m.a7
  ·rw [hp] at hr;simp only [e9J,b4Q,l9.go];have e:=hj _ hr hl.1 hl.2;exact e
  ·rw [hp] at hr;simp only [e9J,b4Q,l9.go];have e:=hj _ hr hl.1 hl.2;exact e
 rw [show (m.a8==6)=false by simpa using k6] at hr hl ⊢;by_cases k7:m.a8=7
 ·rw [show (m.a8==7)=true by simpa using k7] at hr hl ⊢;simp only [cond_true,cond_false] at hr hl ⊢;rw [e9j (a:=⟨n,[],[]⟩) h hm k7 (by simp)];have e:=hj _ hr hl.1 hl.2;exact e
 rw [show (m.a8==7)=false by simpa using k7] at hr hl ⊢;cases k8:m.a8==8
 ·rw [k8] at hr hl;simp only [cond_false,e9J,l9.go] at hr hl ⊢;have e:=hj _ hr hl.1 hl.2;exact e
 ·rw [k8] at hr hl;have hs:=hm.sl;obtain ⟨k,hk⟩:∃k:Nat,m.g7=(k:Int):=⟨m.g7.toNat,by omega⟩
  simp only [cond_false,cond_true] at hr hl ⊢;unfold a3h at hr hl ⊢;rw [hk] at hr hl ⊢;rw [e92] at hr hl ⊢;rw [c9Z h hto (n.a0.length-k) k [] rfl (by simp)];have e:=hj _ hr hl.1 hl.2;exact e
theorem b99{l:List j8}(hl:t8 l):∀(d k:Nat) (net:List j8),net.length<=40->l.length-k=d->p8 (fun s:(List j8)×Int=>a24 l s.1 s.2) (net,(k:Int))=some (.brk (net++(l.drop k).take (40-net.length)))
 | 0,k,net,hn,hd=>by
  refine (C6 (body:=fun s:(List j8)×Int=>a24 l s.1 s.2) (b:=net) ?_).trans (by rw [e91 (by omega)];simp);unfold a24;rw [show decide ((k:Int)<(l.length:Int))=false by simp;omega];rfl
 | d+1,k,net,hn,hd=>by
  have hlt:k<l.length:=by omega
  rw [e97 hlt];by_cases h40:net.length<40
  ·rw [E1 (body:=fun s:(List j8)×Int=>a24 l s.1 s.2) (t:=(net++[l[k]],((k+1:Nat):Int))) (by
    unfold a24 b4K;rw [x8 _ k hlt,cond_true,u0 hlt,e9J,show decide ((net.length:Int)<40)=true by simp;omega,cond_true,t9 (by simp only;omega),F3 hl hlt];rfl),b99 hl d (k+1) _ (by simp;omega) (by omega),e9T,f0y,show 40-net.length=(40-(net.length+1))+1 by omega,f1d,e9Y]
   rfl
  ·rw [E1 (body:=fun s:(List j8)×Int=>a24 l s.1 s.2) (t:=(net,((k+1:Nat):Int))) (by
    unfold a24 b4K;rw [x8 _ k hlt,cond_true,u0 hlt,e9J,show decide ((net.length:Int)<40)=false by simp;omega,cond_false,F3 hl hlt];rfl),b99 hl d (k+1) _ hn (by omega),show 40-net.length=0 by omega,f0p,f0p]
theorem c0P{l:List m9}(hl:t8 l):∀(d k:Nat) (net:List m9),net.length<=60->l.length-k=d->p8 (fun s:(List m9)×Int=>a3t l s.1 s.2) (net,(k:Int))=some (.brk (net++(l.drop k).take (60-net.length)))
 | 0,k,net,hn,hd=>by
  refine (C6 (body:=fun s:(List m9)×Int=>a3t l s.1 s.2) (b:=net) ?_).trans (by rw [e91 (by omega)];simp);unfold a3t;rw [show decide ((k:Int)<(l.length:Int))=false by simp;omega];rfl
 | d+1,k,net,hn,hd=>by
  have hlt:k<l.length:=by omega
  rw [e97 hlt];by_cases h40:net.length<60
  ·rw [E1 (body:=fun s:(List m9)×Int=>a3t l s.1 s.2) (t:=(net++[l[k]],((k+1:Nat):Int))) (by
    unfold a3t b6A;rw [x8 _ k hlt,cond_true,u0 hlt,e9J,show decide ((net.length:Int)<60)=true by simp;omega,cond_true,t9 (by simp only;omega),F3 hl hlt];rfl),c0P hl d (k+1) _ (by simp;omega) (by omega),e9T,f0y,show 60-net.length=(60-(net.length+1))+1 by omega,f1d,e9Y]
   rfl
  ·rw [E1 (body:=fun s:(List m9)×Int=>a3t l s.1 s.2) (t:=(net,((k+1:Nat):Int))) (by
    unfold a3t b6A;rw [x8 _ k hlt,cond_true,u0 hlt,e9J,show decide ((net.length:Int)<60)=false by simp;omega,cond_false,F3 hl hlt];rfl),c0P hl d (k+1) _ hn (by omega),show 60-net.length=0 by omega,f0p,f0p]
theorem a8X{w:m6}(hn:w.a9.length=3)(d4q:w.b9.length<=40)(htl:w.Told.length<=60){n:j6}(hid:0<=n.Id/\n.Id<=2){l:List j8}(hl:l.length<=100){t:List m9}(ht:t.length<=100):a4I w n l t=some (a8t (a0l (M7 w n.Id n) l) t):=by
 obtain ⟨k,hk⟩:∃k:Nat,n.Id=(k:Int):=⟨n.Id.toNat,by omega⟩
 unfold a4I;rw [hk,u0 (show k<w.a9.length by omega),e9J];rw [show p8 (fun s:(List j8)×Int=>a24 l s.1 s.2) (w.b9,0)=_ from b99 (by unfold t8;omega) l.length 0 w.b9 d4q (by omega)];simp only [e9J,l9.go,c0H];rw [show p8 (fun s:(List m9)×Int=>a3t t s.1 s.2) (w.Told,0)=_ from c0P (by unfold t8;omega) t.length 0 w.Told htl (by omega)];simp only [e9J,l9.go,c2k,f0N,hk];rfl
theorem d5f{l:List j8}{k:Nat}(hk:k<l.length)(hl:l.length<=100):b3c l (k:Int)=some (l.take k++l.drop (k+1)):=by
 unfold b3c;rw [B9 (by omega) (by omega)];have e1:((k:Int)+1).toNat=k+1:=by omega
 have l1:((l.drop 0).take ((k:Int).toNat-0)).length<=100:=by simp;omega
 have l2:((l.drop (k+1)).take (l.length-(k+1))).length<=100:=by simp;omega
 rw [t9 (by omega),t9 (by simp only [f01];omega),t9 (by omega),e1,t9 (by simp only [e9T,f01];omega)];rw [c1c];simp
theorem e3D(n:j6)(p:List o9):(J5 n p=true/\(J4 n p).1.Seq=n.Seq+1/\(J4 n p).1.b7.a5=⟨n.Id,n.Seq+1⟩)\/(J5 n p=false/\J4 n p=(n,[])):=by
 cases hc:J5 n p
 ·right
  rw [a2f,hc];exact ⟨rfl,rfl⟩
 ·left
  refine ⟨rfl,?_,?_⟩
  ·rw [a2f,hc];simp only [cond_true];cases n.d6==2
   ·rfl
   ·exact (b55 (N9 n p)).seq
  ·rw [b7p hc];rfl
def onN(w:m6)(e:p7):m6 :=
 bif e.a8==1 then a3c w e.A e.i5 else
 bif e.a8==5 then a0l (M7 w e.A (V3 (H4 w e.A)).1) (V3 (H4 w e.A)).2 else
 bif e.a8==6 then a0l (M7 w e.A (U0 (H4 w e.A)).1) (U0 (H4 w e.A)).2 else
 bif e.a8==7 then M7 w e.A (a0J (H4 w e.A)) else w
theorem b8I(w:m6)(e:p7):C4 w e=bif e.a8==2||(e.a8==3||e.a8==4) then a0F w e else bif o7 e.A 0 2 then onN w e else w:=by
 unfold C4 onN;cases e.a8==2||(e.a8==3||e.a8==4)
 ·cases o7 e.A 0 2<;>rfl
 ·rfl
theorem e3I{w:m6}(h:WI w){e:p7}(he:K6 e)(hi:o7 e.A 0 2=true):a57 w e=some (onN w e):=by
 rw [I4] at hi;obtain ⟨i,hA⟩:∃i:Nat,e.A=(i:Int):=⟨e.A.toNat,by omega⟩
 obtain ⟨n,hg,hn,hid,hni,hlt⟩:=a3N h (i:=i) (by omega);have hal:=h.al;unfold a57 onN;rw [hA,a7W,hg,e9J,hn];cases e.a8==1
 ·cases e.a8==5
  ·cases e.a8==6
   ·cases e.a8==7
    ·rfl
    ·simp only [cond_true,cond_false];rw [d50 hni,e9J,a8X h.nl h.ml h.tl (by exact hni.id) (by simp) (by simp),e9J,a2K,c1I];simp only [e9J,l9.go,b6b];rw [show (a0J n).Id=(i:Int) from hid]
   ·simp only [cond_true,cond_false];have hr:=b0j hni;have hl:=b9I n;rw [d68 hni,e9J];simp only;rw [a8X h.nl h.ml h.tl (by rw [hr.id];exact hni.id) (by omega) (by simp),e9J,a2K,hr.id,hid];rfl
  ·simp only [cond_true,cond_false];have hr:=b0n hni;have hl:=b61 n;rw [d6n hni,e9J,a8X h.nl h.ml h.tl (by rw [hr.id];exact hni.id) (by omega) (by simp),e9J,a2K,hr.id,hid];rfl
 ·simp only [cond_true];unfold a3c;rw [show decide ((w.d7.length:Int)>=60)=decide (60<=w.d7.length) by simp;omega];cases decide (60<=w.d7.length)
  ·simp only [cond_false];have hr:=a80 hni (c46 he);have hl:=b9E n e.i5;rw [e0b hni he,e9J];simp only;rw [a8X h.nl h.ml h.tl (by rw [hr.id];exact hni.id) (by omega) (by simp),e9J,a2K,hr.id,hid,hn];rcases e3D n e.i5 with ⟨c1,c2,c3⟩|⟨c1,c2⟩
   ·rw [show ((J4 n e.i5).1.Seq != n.Seq)=true by rw [c2];simp;omega,show decide ((J4 n e.i5).1.Seq>n.Seq)=true by rw [c2];simp;omega];simp only [cond_true];rw [t9 (by show (w.d7.length+1)*40<=_;omega)];simp only [e9J,l9.go,b6b];rw [c3,c2,hid];rfl
   ·rw [c2,show (n.Seq != n.Seq)=false by simp,show decide (n.Seq>n.Seq)=false by simp];rfl
  ·rfl
theorem e1o{w:m6}(h:WI w){e:p7}{k:Nat}(hA:e.A=(k:Int))(hk:k<w.b9.length)(hkd:(e.a8==2||(e.a8==3||e.a8==4))=true):a6H w e=some (a0F w e):=by
 have hml:=h.ml;unfold a6H a0F;rw [hA,u0 hk,e9J,show decide (0<=(k:Int))=true by simp,e92,e9K hk];have hm:=h.ms _ (e9M hk);generalize w.b9[k]=m at hm;have hof:=d5f hk (by omega);have ht:=hm.to;obtain ⟨t,htt⟩:∃t:Nat,m.To=(t:Int):=⟨m.To.toNat,by omega⟩
 simp only [cond_true];by_cases k2:e.a8=2
 ·rw [show (e.a8==2)=true by simpa using k2,show (e.a8==4)=false by simp [k2],show (e.a8==3)=false by simp [k2]];simp only [cond_true,cond_false];have ho:=h.off (k:Int);obtain ⟨n,hg,hn,hid,hni,hlt⟩:=a3N ho (i:=t) (by omega);have hn':H4 w (t:Int)=n:=hn;have hg':w.a9[t]?=some n:=hg;have hr:=b0F hni hm;obtain ⟨l1,l2⟩:=b7z hni m;rw [hof,e9J,htt,a7W,hg',e9J,e9m hni hm (htt.trans hid.symm),e9J,a8X (w:=⟨w.a9,w.b9.take k++w.b9.drop (k+1),w.d7,w.Told⟩) h.nl ho.ml h.tl (by rw [hr.id];exact hni.id) (by omega) (by omega),e9J,hn',hr.id,hid];rfl
 ·rw [show (e.a8==2)=false by simpa using k2];cases k3:e.a8==3
  ·rw [show (e.a8==4)=true by rw [show (e.a8==2)=false by simpa using k2,k3] at hkd;simpa using hkd];simp only [cond_true,cond_false];obtain ⟨n,hg,hn,hid,hni,hlt⟩:=a3N h (i:=t) (by omega);rw [htt,a7W,hg,e9J,a8X h.nl h.ml h.tl hni.id (by simp) (by simp),e9J,a2K,hid,b84 hg];rfl
  ·rw [show (e.a8==4)=false by simp only [beq_iff_eq] at k3;simp [k3]];simp only [cond_true,cond_false];rw [hof];rfl
theorem e0N{w:m6}(h:WI w){e:p7}(he:K6 e):b7e w e=some (C4 w e):=by
 have hd:=b0S h he;have hml:=h.ml;have hcp:a1g w=some w:=b3H h.ok;have hcd:a1g (C4 w e)=some (C4 w e):=b3H hd.ok;have hin:m8 ((w.a9.length:Int)-1)=2:=by rw [h.nl];rfl
 have hnode:(e.a8==2||(e.a8==3||e.a8==4))=false->((C5 e.A 0 2).bind fun in_=>bif in_ then (a57 w e).bind fun o=>some (l9.brk o) else some (l9.brk w):Option (l9 m6 m6))=some (.brk (C4 w e)):=by
  intro hk;rw [M0,e9J,b8I,hk];cases hi:o7 e.A 0 2
  ·rfl
  ·simp only [cond_true,cond_false];rw [e3I h he hi];rfl
 have hmsg:(e.a8==2||(e.a8==3||e.a8==4))=true->((C5 e.A 0 (m8 ((w.b9.length:Int)-1))).bind fun in_=>bif in_ then (a6H w e).bind fun o=>some (l9.brk o) else some (l9.brk w):Option (l9 m6 m6))=some (.brk (C4 w e)):=by
  intro hk;rw [B9 (by omega) (by omega),M0,e9J,b8I,hk];cases hi:o7 e.A 0 ((w.b9.length:Int)-1)
  ·simp only [cond_true,cond_false];rw [show a0F w e=w by
    unfold a0F;cases h0:decide (0<=e.A)
    ·rfl
    ·have:¬(0<=e.A/\e.A<=(w.b9.length:Int)-1):=fun q=>by rw [I4.2 q] at hi;cases hi
     have h0':0<=e.A:=of_decide_eq_true h0;rw [f0c (by omega)];rfl]
  ·rw [I4] at hi;simp only [cond_true];rw [e1o h (k:=e.A.toNat) (by omega) (by omega) hk];rfl
 unfold b7e;rw [hcp,e9J,hin];by_cases k1:e.a8=1
 ·have hf:(e.a8==2||(e.a8==3||e.a8==4))=false:=by simp [k1]
  rw [show (e.a8==1)=true by simpa using k1];simp only [cond_true];rw [hnode hf];simp only [e9J,l9.go,c1E,hcd]
 rw [show (e.a8==1)=false by simpa using k1];by_cases k5:e.a8=5
 ·have hf:(e.a8==2||(e.a8==3||e.a8==4))=false:=by simp [k5]
  rw [show (e.a8==5)=true by simpa using k5];simp only [cond_true,cond_false];rw [hnode hf];simp only [e9J,l9.go,c0r,hcd]
 rw [show (e.a8==5)=false by simpa using k5];by_cases k6:e.a8=6
 ·have hf:(e.a8==2||(e.a8==3||e.a8==4))=false:=by simp [k6]
  rw [show (e.a8==6)=true by simpa using k6];simp only [cond_true,cond_false];rw [hnode hf];simp only [e9J,l9.go,c3v,hcd]
 rw [show (e.a8==6)=false by simpa using k6];simp only [cond_false];have fin:∀X:Option (l9 m6 m6),X=some (.brk (C4 w e))->(X.bind fun x=>x.go some fun j=>b3O j)=some (C4 w e):=by
  intro X hX;rw [hX];simp only [e9J,l9.go,b3O,hcd]
 refine fin _ ?_;by_cases k7:e.a8=7
 ·rw [show (e.a8==7)=true by simpa using k7];exact hnode (by simp [k7])
 rw [show (e.a8==7)=false by simpa using k7];by_cases k2:e.a8=2
 ·rw [show (e.a8==2)=true by simpa using k2];exact hmsg (by simp [k2])
 by_cases k3:e.a8=3
 ·rw [show (e.a8==2)=false by simpa using k2,show (e.a8==3)=true by simpa using k3];exact hmsg (by simp [k3])
 by_cases k4:e.a8=4
 ·rw [show (e.a8==2)=false by simpa using k2,show (e.a8==3)=false by simpa using k3,show (e.a8==4)=true by simpa using k4];exact hmsg (by simp [k4])
 have e2:(e.a8==2)=false:=by simpa using k2
 have e3:(e.a8==3)=false:=by simpa using k3
 have e4:(e.a8==4)=false:=by simpa using k4
 rw [e2,e3,e4,b8I,e2,e3,e4];have:onN w e=w:=by
  unfold onN;rw [show (e.a8==1)=false by simpa using k1,show (e.a8==5)=false by simpa using k5,show (e.a8==6)=false by simpa using k6,show (e.a8==7)=false by simpa using k7];rfl
 rw [this];cases o7 e.A 0 2<;>rfl
theorem c9i{l:List p7}(hl:t8 l)(he:∀e∈l,K6 e):∀(d k:Nat) (w:m6),WI w->l.length-k=d->p8 (fun s:Int×m6=>a6i l s.1 s.2) ((k:Int),w)=some (.brk (a0X w (l.drop k)))
 | 0,k,w,h,hd=>by
  rw [e91 (by omega)];refine C6 (body:=fun s:Int×m6=>a6i l s.1 s.2) (b:=w) ?_;unfold a6i;rw [show decide ((k:Int)<(l.length:Int))=false by simp;omega];rfl
 | d+1,k,w,h,hd=>by
  have hlt:k<l.length:=by omega
  have hek:=he _ (e9M hlt);rw [E1 (body:=fun s:Int×m6=>a6i l s.1 s.2) (t:=(((k+1:Nat):Int),C4 w l[k])) (by
   unfold a6i;rw [x8 _ k hlt,u0 hlt,cond_true,e9J,e0N h hek,e9J,F3 hl hlt]),c9i hl he d (k+1) _ (b0S h hek) (by omega),e97 hlt]
  rfl
theorem e6A{w:m6}(h:a09 w){l:List p7}(hl:t8 l)(he:∀e∈l,K6 e):b03 w l=some (bif J2 w&&decide (l.length<=400) then a0X w l else noW):=by
 unfold b03;rw [d8C h,e9J,show decide ((l.length:Int)>400) = !decide (l.length<=400) from b0q l 400];cases hw:J2 w
 ·rfl
 ·cases decide (l.length<=400)
  ·rfl
  ·simp only [e9O,cond_false,Bool.and_self,cond_true];rw [b3H h,e9J,show p8 (fun s:Int×m6=>a6i l s.1 s.2) (0,w)=_ from c9i hl he l.length 0 w (a7a.1 hw) rfl];rfl
theorem e27{l:List p7}(he:∀e∈l,K6 e)(hl:l.length<=300):b03 N7 l=some (a0X N7 l)/\b14 N7 l=some (a0X N7 l)/\WI (a0X N7 l):=by
 have hf:t8 l:=by unfold t8;omega
 have h:=WI.open;refine ⟨?_,?_,d00 h he⟩
 ·rw [e6A h.ok hf he,a7a.2 h,decide_eq_true (by omega)];rfl
 ·rw [e2Z h.ok hf he,a7a.2 h,decide_eq_true (by omega)];rfl
def D3(i:Int):Prop:=0<=i/\i<=2
abbrev VR:=Int->Nat->Int->m4->Prop
abbrev PR:=Int->Nat->m4->Prop
abbrev MS:=j8->Prop
def a17(V:VR)(s:Nat)(e:m4):Prop := ∃b p q,D3 p/\D3 q/\p≠q/\V p s b e/\V q s b e
structure Cov(N:Int->j6)(V:VR)(n:j6)(q:Int):Prop where
 pr:n.a7<=(N q).Acc.g8
 cv:∀s b e,n.a0.length<=s->b<n.a7->V q s b e->∃v,n.g9[s]?=some v/\b<=v.a7
def Quo(p:Int->Prop):Prop := ∃a b,D3 a/\D3 b/\a≠b/\p a/\p b
structure LD(N:Int->j6)(V:VR)(P:PR)(n:j6):Prop where
 bs:n.d6≠0->∀s v,n.g9[s]?=some v->v.a7>0->v.a7<n.a7/\∃q,V q s v.a7 v.i0
 l1:n.d6=1->(∀s e,¬P n.a7 s e)/\∀q,D3 q->n.c8[q.toNat]?=some true->Cov N V n q
 l2:n.d6=2->(∀s e,P n.a7 s e->s<n.a0.length)/\Quo (Cov N V n)
 l3:n.d6=3->P n.a7 n.a0.length n.c9/\(∀s e,P n.a7 s e->s<=n.a0.length)/\Quo (Cov N V n)/\∀q,D3 q->n.a6[q.toNat]?=some true->V q n.a0.length n.a7 n.c9
structure MV(N:Int->j6)(V:VR)(P:PR)(m:j8):Prop where
 k1:m.a8=1->e99 m.a7 3=m.c8/\m.g7<=(N m.c8).a0.length
 k2:m.a8=2->m.g7<=(N m.To).a0.length/\m.a7<=(N m.c8).Acc.g8/\(∀s b e,m.g7.toNat<=s->b<m.a7->V m.c8 s b e->∃v,m.a6[s-m.g7.toNat]?=some v/\b<=v.a7)/\∀k v,m.a6[k]?=some v->v.a7>0->v.a7<=m.a7/\V m.c8 (m.g7.toNat+k) v.a7 v.i0
 k3:m.a8=3->P m.a7 m.g7.toNat m.i0
 k4:m.a8=4->∃e,V m.c8 m.g7.toNat m.a7 e
 k5:m.a8=5->a17 V m.g7.toNat m.i0
def Sf(N:Int->j6)(V:VR)(b:Int)(s:Nat)(e:m4)(q:Int):Prop :=
 b<=(N q).Acc.g8/\∀b' e',b'<b->V q s b' e'->∃b1 q1,b'<=b1/\b1<b/\V q1 s b1 e
structure PX(N:Int->j6)(V:VR)(P:PR)(M:MS):Prop where
 ni:∀i,D3 i->NI (N i)/\(N i).Id=i
 vp:∀i s b e,V i s b e->D3 i/\P b s e/\1<=b/\b<=(N i).Acc.g8
 cur:∀i s v,D3 i->(N i).Acc.a6[s]?=some v->v.a7>0->V i s v.a7 v.i0
 max:∀i s b e,V i s b e->∃v,(N i).Acc.a6[s]?=some v/\b<=v.a7
 pu:∀b s e e',P b s e->P b s e'->e=e'
 po:∀b s e,P b s e->1<=b/\b<=(N (e99 b 3)).Acc.g8
 safe:∀b s e,P b s e->Quo (Sf N V b s e)
 ld:∀i,D3 i->LD N V P (N i)
 kn:∀i s e,D3 i->(N i).a0[s]?=some e->a17 V s e
 ms:∀m,M m->MI m/\MV N V P m
theorem e9u{p q:Int->Prop}(hp:Quo p)(hq:Quo q):∃a,D3 a/\p a/\q a:=by
 obtain ⟨a,b,ha,hb,hab,pa,pb⟩:=hp;obtain ⟨c,d,hc,hd,hcd,qc,qd⟩:=hq;unfold D3 at *;by_cases h1:a=c
 ·exact ⟨a,ha,pa,h1▸qc⟩
 by_cases h2:a=d
 ·exact ⟨a,ha,pa,h2▸qd⟩
 by_cases h3:b=c
 ·exact ⟨b,hb,pb,h3▸qc⟩
 by_cases h4:b=d
 ·exact ⟨b,hb,pb,h4▸qd⟩
 omega
section
variable {N:Int->j6} {V:VR} {P:PR} {M:MS}
theorem PX.later(h:PX N V P M){s:Nat}{b0:Int}{e0:m4}(hc:Quo fun q=>V q s b0 e0):∀(k:Nat) (b:Int) (e:m4),b.toNat=k->b0<=b->P b s e->e=e0:=by
 have h0:P b0 s e0:=by obtain ⟨p,q,_,_,_,v,_⟩:=hc;exact (h.vp _ _ _ _ v).2.1
 intro k;induction k using Nat.strongRecOn with
 | _ k ih =>
  intro b e hb hle hp;by_cases hq:b0=b
  ·subst hq;exact h.pu _ _ _ _ hp h0
  ·obtain ⟨a,ha,v,s1,s2⟩:=e9u hc (h.safe b s e hp);obtain ⟨b1,q1,h1,h2,h3⟩:=s2 b0 e0 (by omega) v;obtain ⟨_,p1,p2,_⟩:=h.vp _ _ _ _ h3;exact ih b1.toNat (by omega) b1 e rfl h1 p1
theorem PX.one(h:PX N V P M){s:Nat}{e e':m4}(h1:a17 V s e)(h2:a17 V s e'):e=e':=by
 obtain ⟨b,p,q,hp,hq,hpq,v1,v2⟩:=h1;obtain ⟨b',p',q',hp',hq',hpq',w1,w2⟩:=h2;have c1:Quo fun q=>V q s b e:=⟨p,q,hp,hq,hpq,v1,v2⟩
 have c2:Quo fun q=>V q s b' e':=⟨p',q',hp',hq',hpq',w1,w2⟩
 rcases Int.le_total b b' with hl|hl
 ·exact (h.later c1 _ b' e' rfl hl (h.vp _ _ _ _ w1).2.1).symm
 ·exact h.later c2 _ b e rfl hl (h.vp _ _ _ _ v1).2.1
end
def upd(N:Int->j6)(i:Int)(n:j6):Int->j6:=fun j=>if j=i then n else N j
theorem R1(N:Int->j6)(i:Int)(n:j6):upd N i n i=n:=if_pos rfl
theorem a8A{N:Int->j6}{i j:Int}(n:j6)(h:j≠i):upd N i n j=N j:=if_neg h
theorem a21(N:Int->j6)(i:Int)(a b:j6):upd (upd N i a) i b=upd N i b:=by
 funext j;unfold upd;split<;>rfl
theorem a7G(N:Int->j6)(i:Int):upd N i (N i)=N:=by
 funext j;unfold upd;split
 ·rename_i h;rw [h]
 ·rfl
theorem a0e.own{n:j6}(h:a0e n)(hp:n.d6≠0):Own n:=by
 rcases h with q|q|q|q
 ·exact absurd q.1 hp
 ·exact q.2.1
 ·exact q.2.1
 ·exact q.2.1
structure Chg(N:Int->j6)(V:VR)(P:PR)(M:MS)(i:Int)(n':j6)(V':VR)(P':PR)(M':MS):Prop where
 ni:NI n'
 id:n'.Id=i
 pr:(N i).Acc.g8<=n'.Acc.g8
 kl:(N i).a0.length<=n'.a0.length
 v1:∀q s b e,V q s b e->V' q s b e
 v2:∀q s b e,V' q s b e->V q s b e\/(q=i/\(N i).Acc.g8<=b/\1<=b/\b<=n'.Acc.g8/\P' b s e)
 p1:∀b s e,P b s e->P' b s e
 p2:∀b s e,P' b s e->P b s e\/(b=n'.a7/\n'.d6=3/\(∀e',P' b s e'->e'=e)/\Quo (Sf (upd N i n') V' b s e))
 cur:∀s v,n'.Acc.a6[s]?=some v->v.a7>0->V' i s v.a7 v.i0
 max:∀s b e,V' i s b e->∃v,n'.Acc.a6[s]?=some v/\b<=v.a7
 ld:LD (upd N i n') V' P' n'
 kn:∀s e,n'.a0[s]?=some e->a17 V' s e
 ms:∀m,M' m->M m\/(MI m/\MV (upd N i n') V' P' m)
section
variable {N:Int->j6} {V:VR} {P:PR} {M:MS} {i:Int} {n':j6} {V':VR} {P':PR} {M':MS}
theorem Chg.prm(c:Chg N V P M i n' V' P' M')(q:Int):(N q).Acc.g8<=(upd N i n' q).Acc.g8:=by
 unfold upd;split
 ·rename_i h;rw [h];exact c.pr
 ·exact f0b _
theorem Chg.len(c:Chg N V P M i n' V' P' M')(q:Int):(N q).a0.length<=(upd N i n' q).a0.length:=by
 unfold upd;split
 ·rename_i h;rw [h];exact c.kl
 ·exact f0d _
theorem Chg.old(c:Chg N V P M i n' V' P' M'){q:Int}{s:Nat}{b x:Int}{e:m4}(hx:x<=(N q).Acc.g8)(hb:b<x)(v:V' q s b e):V q s b e:=by
 rcases c.v2 q s b e v with v|⟨rfl,v1,_⟩
 ·exact v
 ·omega
theorem Chg.cov(c:Chg N V P M i n' V' P' M'){n:j6}{q:Int}(h:Cov N V n q):Cov (upd N i n') V' n q :=
 ⟨f0q h.pr (c.prm q),fun s b e hs hb v=>h.cv s b e hs hb (c.old h.pr hb v)⟩
theorem Quo.imp{p q:Int->Prop}(h:Quo p)(hi:∀a,D3 a->p a->q a):Quo q:=by
 obtain ⟨a,b,ha,hb,hab,pa,pb⟩:=h;exact ⟨a,b,ha,hb,hab,hi a ha pa,hi b hb pb⟩
theorem Chg.sf(c:Chg N V P M i n' V' P' M'){b:Int}{s:Nat}{e:m4}{q:Int}(h:Sf N V b s e q):Sf (upd N i n') V' b s e q :=
 ⟨f0q h.1 (c.prm q),fun b' e' hb v=>by
  obtain ⟨b1,q1,x1,x2,x3⟩:=h.2 b' e' hb (c.old h.1 hb v);exact ⟨b1,q1,x1,x2,c.v1 _ _ _ _ x3⟩⟩
theorem a17.mono(h:∀q s b e,V q s b e->V' q s b e){s:Nat}{e:m4}(hc:a17 V s e):a17 V' s e:=by
 obtain ⟨b,p,q,hp,hq,hpq,v1,v2⟩:=hc;exact ⟨b,p,q,hp,hq,hpq,h _ _ _ _ v1,h _ _ _ _ v2⟩
theorem Chg.ldo(c:Chg N V P M i n' V' P' M')(hi:D3 i){n:j6}(hn:NI n)(hne:n.Id≠i)(h:LD N V P n):LD (upd N i n') V' P' n:=by
 have hp:n.d6≠0->∀s e,P' n.a7 s e->P n.a7 s e:=by
  intro h0 s e hp;rcases c.p2 _ _ _ hp with q|⟨hb,h3,_⟩
  ·exact q
  ·exfalso
   have o1:=(hn.ld.own h0).mod;have o2:=(c.ni.ld.own (by omega)).mod;rw [<-hb,o1,c.id] at o2;exact hne o2
 refine ⟨fun h0 s v hs hv => ?_,fun h1 => ?_,fun h2 => ?_,fun h3 => ?_⟩
 ·obtain ⟨x1,q,x2⟩:=h.bs h0 s v hs hv;exact ⟨x1,q,c.v1 _ _ _ _ x2⟩
 ·obtain ⟨x1,x2⟩:=h.l1 h1;exact ⟨fun s e q=>x1 s e (hp (by omega) s e q),fun q hq hf=>c.cov (x2 q hq hf)⟩
 ·obtain ⟨x1,x2⟩:=h.l2 h2;exact ⟨fun s e q=>x1 s e (hp (by omega) s e q),x2.imp fun a _=>c.cov⟩
 ·obtain ⟨x1,x2,x3,x4⟩:=h.l3 h3;exact ⟨c.p1 _ _ _ x1,fun s e q=>x2 s e (hp (by omega) s e q),x3.imp fun a _=>c.cov,fun q hq hv=>c.v1 _ _ _ _ (x4 q hq hv)⟩
theorem Chg.msg(c:Chg N V P M i n' V' P' M'){m:j8}(h:MV N V P m):MV (upd N i n') V' P' m:=by
 refine ⟨fun k => ?_,fun k => ?_,fun k=>c.p1 _ _ _ (h.k3 k),fun k => ?_,fun k=>(h.k5 k).mono c.v1⟩
 ·obtain ⟨x1,x2⟩:=h.k1 k;have:=c.len m.c8;exact ⟨x1,by omega⟩
 ·obtain ⟨x1,x2,x3,x4⟩:=h.k2 k;have:=c.len m.To;refine ⟨by omega,f0q x2 (c.prm _),fun s b e hs hb v=>x3 s b e hs hb (c.old x2 hb v),fun k v hk hv => ?_⟩;obtain ⟨y1,y2⟩:=x4 k v hk hv;exact ⟨y1,c.v1 _ _ _ _ y2⟩
 ·obtain ⟨e,x⟩:=h.k4 k;exact ⟨e,c.v1 _ _ _ _ x⟩
theorem PX.step(h:PX N V P M)(hi:D3 i)(c:Chg N V P M i n' V' P' M'):PX (upd N i n') V' P' M':=by
 have hpo:∀b s e,P' b s e->1<=b/\b<=(upd N i n' (e99 b 3)).Acc.g8:=by
  intro b s e hp;rcases c.p2 _ _ _ hp with q|⟨rfl,h3,_⟩
  ·obtain ⟨x1,x2⟩:=h.po _ _ _ q;exact ⟨x1,f0q x2 (c.prm _)⟩
  ·have o:=c.ni.ld.own (by omega);have ho:=o.mod;rw [c.id] at ho;rw [ho,R1];exact ⟨o.b1,o.pr⟩
 refine ⟨fun j hj => ?_,fun j s b e v => ?_,fun j s v hj hs hv => ?_,fun j s b e v => ?_,fun b s e e' p p' => ?_,hpo,fun b s e p => ?_,fun j hj => ?_,fun j s e hj hk => ?_,fun m hm => ?_⟩
 ·by_cases q:j=i
  ·subst q;rw [R1];exact ⟨c.ni,c.id⟩
  ·rw [a8A _ q];exact h.ni j hj
 ·rcases c.v2 _ _ _ _ v with v|⟨rfl,x1,x2,x3,x4⟩
  ·obtain ⟨x1,x2,x3,x4⟩:=h.vp _ _ _ _ v;exact ⟨x1,c.p1 _ _ _ x2,x3,f0q x4 (c.prm _)⟩
  ·rw [R1];exact ⟨hi,x4,x2,x3⟩
 ·by_cases q:j=i
  ·subst q;rw [R1] at hs;exact c.cur s v hs hv
  ·rw [a8A _ q] at hs;exact c.v1 _ _ _ _ (h.cur j s v hj hs hv)
 ·by_cases q:j=i
  ·subst q;rw [R1];exact c.max s b e v
  ·rw [a8A _ q];rcases c.v2 _ _ _ _ v with v|⟨x,_⟩
   ·exact h.max _ _ _ _ v
   ·exact absurd x q
 ·rcases c.p2 _ _ _ p with p|⟨_,_,x,_⟩
  ·rcases c.p2 _ _ _ p' with p'|⟨_,_,x,_⟩
   ·exact h.pu _ _ _ _ p p'
   ·exact x e (c.p1 _ _ _ p)
  ·exact (x e' p').symm
 ·rcases c.p2 _ _ _ p with p|⟨_,_,_,x⟩
  ·exact (h.safe _ _ _ p).imp fun a _=>c.sf
  ·exact x
 ·by_cases q:j=i
  ·subst q;rw [R1];exact c.ld
  ·rw [a8A _ q];exact c.ldo hi (h.ni j hj).1 (by rw [(h.ni j hj).2];exact q) (h.ld j hj)
 ·by_cases q:j=i
  ·subst q;rw [R1] at hk;exact c.kn s e hk
  ·rw [a8A _ q] at hk;exact (h.kn j s e hj hk).mono c.v1
 ·rcases c.ms m hm with q|q
  ·exact ⟨(h.ms m q).1,c.msg (h.ms m q).2⟩
  ·exact q
end
def snd(M:MS)(l:List j8):MS:=fun m=>M m\/m∈l
def K7(N:Int->j6)(M:MS)(i:Int)(n':j6)(l:List j8):Prop := ∃V' P',PX (upd N i n') V' P' (snd M l)
section
variable {N N':Int->j6} {V V':VR} {P P':PR} {M:MS} {i:Int} {n n':j6}
theorem PX.send(h:PX N V P M){l:List j8}(hl:∀m∈l,MI m/\MV N V P m):PX N V P (snd M l) :=
 {h with ms:=fun m hm=>hm.elim (h.ms m) (hl m)}
theorem a62(M:MS):snd M []=M:=by
 funext m;unfold snd;simp
theorem d2a(M:MS)(a b:List j8):snd (snd M a) b=snd M (a++b):=by
 funext m;unfold snd;simp [or_assoc]
theorem K7.same(h:PX N V P M):K7 N M i (N i) []:=⟨V,P,by rw [a7G,a62];exact h⟩
theorem LD.same(h:LD N V P n)(hpr:∀q,(N q).Acc.g8<=(N' q).Acc.g8)(hV:∀q s b e,V q s b e->V' q s b e)(hold:∀q s b x e,x<=(N q).Acc.g8->b<x->V' q s b e->V q s b e)(hP:∀b s e,P b s e->P' b s e)(hP':∀s e,P' n.a7 s e->P n.a7 s e)(e1:n'.d6=n.d6)(e2:n'.a7=n.a7)(e3:n'.g9=n.g9)(e4:n'.a0=n.a0)(e5:n'.c8=n.c8)(e6:n'.c9=n.c9)(e7:n'.a6=n.a6):LD N' V' P' n':=by
 have hc:∀q,Cov N V n q->Cov N' V' n' q:=fun q c=>by
  refine ⟨by rw [e2];exact f0q c.pr (hpr q),?_⟩;rw [e2,e3,e4];exact fun s b e hs hb v=>c.cv s b e hs hb (hold _ _ _ _ _ c.pr hb v)
 refine ⟨?_,?_,?_,?_⟩
 ·rw [e1,e2,e3];intro h0 s v hs hv;obtain ⟨x1,q,x2⟩:=h.bs h0 s v hs hv;exact ⟨x1,q,hV _ _ _ _ x2⟩
 ·rw [e1,e2,e5];intro h1;obtain ⟨x1,x2⟩:=h.l1 h1;exact ⟨fun s e p=>x1 s e (hP' s e p),fun q hq hf=>hc q (x2 q hq hf)⟩
 ·rw [e1,e2,e4];intro h2;obtain ⟨x1,x2⟩:=h.l2 h2;exact ⟨fun s e p=>x1 s e (hP' s e p),x2.imp fun q _=>hc q⟩
 ·rw [e1,e2,e4,e6,e7];intro h3;obtain ⟨x1,x2,x3,x4⟩:=h.l3 h3;exact ⟨hP _ _ _ x1,fun s e p=>x2 s e (hP' s e p),x3.imp fun q _=>hc q,fun q hq hv=>hV _ _ _ _ (x4 q hq hv)⟩
theorem LD.none(h:n.d6=0):LD N V P n:=⟨fun q=>absurd h q,fun q=>by omega,fun q=>by omega,fun q=>by omega⟩
theorem a7H(hpr:(N i).Acc.g8<=n'.Acc.g8)(q:Int):(N q).Acc.g8<=(upd N i n' q).Acc.g8:=by
 unfold upd;split
 ·rename_i h;rw [h];exact hpr
 ·exact f0b _
theorem PX.quiet(h:PX N V P M)(hi:D3 i)(hni:NI n')(hid:n'.Id=i)(hpr:(N i).Acc.g8<=n'.Acc.g8)(hvt:n'.Acc.a6=(N i).Acc.a6)(hk:n'.a0=(N i).a0)(hld:LD (upd N i n') V P n'):PX (upd N i n') V P M :=
 h.step hi ⟨hni,hid,hpr,by rw [hk];exact f0d _,fun _ _ _ _ v=>v,fun _ _ _ _ v=>.inl v,fun _ _ _ p=>p,fun _ _ _ p=>.inl p,by rw [hvt];exact fun s v=>h.cur i s v hi,by rw [hvt];exact fun s b e=>h.max i s b e,hld,by rw [hk];exact fun s e=>h.kn i s e hi,fun m hm=>.inl hm⟩
theorem PX.keep(h:PX N V P M)(hi:D3 i)(hni:NI n')(hid:n'.Id=i)(hpr:(N i).Acc.g8<=n'.Acc.g8)(hvt:n'.Acc.a6=(N i).Acc.a6)(hk:n'.a0=(N i).a0)(e1:n'.d6=(N i).d6)(e2:n'.a7=(N i).a7)(e3:n'.g9=(N i).g9)(e5:n'.c8=(N i).c8)(e6:n'.c9=(N i).c9)(e7:n'.a6=(N i).a6):PX (upd N i n') V P M :=
 h.quiet hi hni hid hpr hvt hk ((h.ld i hi).same (a7H hpr) (fun _ _ _ _ v=>v) (fun _ _ _ _ _ _ _ v=>v) (fun _ _ _ p=>p) (fun _ _ p=>p) e1 e2 e3 hk e5 e6 e7)
theorem PX.down(h:PX N V P M)(hi:D3 i):PX (upd N i (a3Y (N i))) V P M :=
 h.quiet hi (h.ni i hi).1.down (h.ni i hi).2 (f0b _) rfl rfl (.none rfl)
theorem PX.promise(h:PX N V P M)(hi:D3 i){b:Int}{x:x6}(hp:G6 (N i).Acc b=some x):PX (upd N i {N i with Acc:=x}) V P M:=by
 obtain ⟨rfl,h1,h2,h3⟩:=a3v hp;exact h.keep hi ((h.ni i hi).1.promise hp) (h.ni i hi).2 h3 rfl rfl rfl rfl rfl rfl rfl rfl
theorem PX.yield(h:PX N V P M)(hi:D3 i)(b:Int):PX (upd N i (L8 (N i) b)) V P M:=by
 unfold L8;cases (N i).d6 != 0&&decide (b>(N i).a7)
 ·simp only [cond_false];rw [a7G];exact h
 ·exact h.down hi
theorem PX.free(h:PX N V P M)(hi:D3 i):PX (upd N i (S9 (N i)).1) V P M:=by
 rcases a9P (N i) with q|⟨k,_,_,q⟩<;>rw [q]
 ·rw [a7G];exact h
 ·exact h.keep hi (h.ni i hi).1.freeN (h.ni i hi).2 (f0b _) rfl rfl rfl rfl rfl rfl rfl rfl
theorem d6L{vs:List m7}{n s:Nat}{v:m7}(h:(Q9 vs n)[s]?=some v):vs[s]?=some v\/v=v0:=by
 unfold Q9 at h;rw [f1p] at h;split at h
 ·exact .inl h
 ·rw [List.getElem?_replicate] at h;split at h
  ·injection h with h;exact .inr h.symm
  ·cases h
theorem d6k{vs:List m7}{s:Nat}{v:m7}(n:Nat)(h:vs[s]?=some v):(Q9 vs n)[s]?=some v:=by
 unfold Q9;rw [e94 (e9P.1 h).1];exact h
def a7m(V:VR)(i:Int)(k:Nat)(b:Int)(e:m4):VR:=fun q s c f=>V q s c f\/(q=i/\s=k/\c=b/\f=e)
theorem d2W(h:PX N V P M)(hi:D3 i){b s:Int}{e:m4}{x:x6}(hc:J3 (N i).Acc b s e=some x):∃k:Nat,s=(k:Int)/\k<40/\1<=b/\b<=3000/\(N i).Acc.g8<=b/\x.g8=b/\z3 e=true/\
  (∀s v,x.a6[s]?=some v->v.a7>0->a7m V i k b e i s v.a7 v.i0)/\(∀s c f,a7m V i k b e i s c f->∃v,x.a6[s]?=some v/\c<=v.a7):=by
 obtain ⟨k,rfl,hk,he,h1,h2,h3,rfl⟩:=b6N hc;have hlen:k<(Q9 (N i).Acc.a6 (k+1)).length:=by rw [b5v];omega
 refine ⟨k,rfl,hk,h1,h2,h3,rfl,he,fun s v hs hv => ?_,fun s c f v => ?_⟩
 ·simp only [f02] at hs;split at hs
  ·rename_i hq;injection hs with hs;subst hs;exact .inr ⟨rfl,hq.symm,rfl,rfl⟩
  ·rcases d6L hs with q|q
   ·exact .inl (h.cur i s v hi q hv)
   ·rw [q] at hv;exact absurd hv (by decide)
 ·simp only [f02];by_cases hq:k=s
  ·subst hq;rw [if_pos rfl,if_pos hlen];refine ⟨_,rfl,?_⟩;rcases v with v|⟨_,_,rfl,_⟩
   ·have:=(h.vp _ _ _ _ v).2.2.2;simp only;omega
   ·exact f0b _
  ·rw [if_neg hq];rcases v with v|⟨_,x,_⟩
   ·obtain ⟨v',y1,y2⟩:=h.max _ _ _ _ v;exact ⟨v',d6k _ y1,y2⟩
   ·exact absurd x.symm hq
theorem b9Q{k:Nat}{b:Int}{e:m4}(hb:(N i).Acc.g8<=b){q:Int}{s:Nat}{c x:Int}{f:m4}(hx:x<=(N q).Acc.g8)(hc:c<x)(v:a7m V i k b e q s c f):V q s c f:=by
 rcases v with v|⟨rfl,_,rfl,_⟩
 ·exact v
 ·omega
theorem PX.vote(h:PX N V P M)(hi:D3 i){b s:Int}{e:m4}{x:x6}(hc:J3 (N i).Acc b s e=some x)(hp:P b s.toNat e):PX (upd N i {N i with Acc:=x}) (a7m V i s.toNat b e) P M:=by
 obtain ⟨k,rfl,hk,h1,h2,h3,h4,he,c1,c2⟩:=d2W h hi hc;rw [e92] at hp ⊢;have hpr:(N i).Acc.g8<=({N i with Acc:=x}:j6).Acc.g8:=by show _<=x.g8;rw [h4];exact h3
 refine h.step hi ⟨(h.ni i hi).1.cast hc,(h.ni i hi).2,hpr,f0d _,fun _ _ _ _ v=>.inl v,fun q s c f v => ?_,fun _ _ _ p=>p,fun _ _ _ p=>.inl p,c1,c2,?_,fun s e hk=>(h.kn i s e hi hk).mono fun _ _ _ _ v=>.inl v,fun m hm=>.inl hm⟩
 ·rcases v with v|⟨rfl,rfl,rfl,rfl⟩
  ·exact .inl v
  ·exact .inr ⟨rfl,h3,h1,by show _<=x.g8;rw [h4];exact f0b _,hp⟩
 ·exact (h.ld i hi).same (a7H hpr) (fun _ _ _ _ v=>.inl v) (fun q s c x f hx hc v=>b9Q h3 hx hc v) (fun _ _ _ p=>p) (fun _ _ p=>p) rfl rfl rfl rfl rfl rfl rfl
theorem PX.know(h:PX N V P M)(hi:D3 i){e:m4}(he:z3 e=true)(hl:(N i).a0.length<40)(hc:a17 V (N i).a0.length e):PX (upd N i (D1 (N i) e)) V P M:=by
 have hk:=b8N (N i) e;have hacc:(D1 (N i) e).Acc=(N i).Acc:=by unfold D1;cases (N i).d6==3<;>rfl
 have hb:(D1 (N i) e).a7=(N i).a7:=by unfold D1;cases (N i).d6==3<;>rfl
 have hbe:(D1 (N i) e).g9=(N i).g9:=by unfold D1;cases (N i).d6==3<;>rfl
 have hpr:(N i).Acc.g8<=(D1 (N i) e).Acc.g8:=by rw [hacc];exact f0b _
 have hcov:∀q,Cov N V (N i) q->Cov (upd N i (D1 (N i) e)) V (D1 (N i) e) q:=fun q c=>by
  refine ⟨by rw [hb];exact f0q c.pr (a7H hpr q),?_⟩;rw [hb,hbe,hk,e9T];exact fun s b e hs hb v=>c.cv s b e (by omega) hb v
 refine h.step hi ⟨(h.ni i hi).1.know he hl,(b5w _ _).trans (h.ni i hi).2,hpr,by rw [hk];simp,fun _ _ _ _ v=>v,fun _ _ _ _ v=>.inl v,fun _ _ _ p=>p,fun _ _ _ p=>.inl p,by rw [hacc];exact fun s v=>h.cur i s v hi,by rw [hacc];exact fun s b e=>h.max i s b e,?_,fun s f hs => ?_,fun m hm=>.inl hm⟩
 ·have hld:=h.ld i hi;refine ⟨?_,?_,?_,?_⟩
  ·intro h0;rw [hb,hbe];refine hld.bs ?_;intro q;apply h0;unfold D1;rw [show ((N i).d6==3)=false by simp [q]];exact q
  ·intro h1;have h1':(N i).d6=1:=by
    by_cases q:(N i).d6=3
    ·unfold D1 at h1;rw [show ((N i).d6==3)=true by simpa using q] at h1;cases h1
    ·unfold D1 at h1;rw [show ((N i).d6==3)=false by simpa using q] at h1;exact h1
   have hf:(D1 (N i) e).c8=(N i).c8:=by unfold D1;cases (N i).d6==3<;>rfl
   rw [hb,hf];exact ⟨(hld.l1 h1').1,fun q hq hf=>hcov q ((hld.l1 h1').2 q hq hf)⟩
  ·intro h2;rw [hb,hk,e9T,f0y];by_cases q:(N i).d6=3
   ·obtain ⟨x1,x2,x3,x4⟩:=hld.l3 q;exact ⟨fun s f p=>by have:=x2 s f p;omega,x3.imp fun q _=>hcov q⟩
   ·have h2':(N i).d6=2:=by
     unfold D1 at h2;rw [show ((N i).d6==3)=false by simpa using q] at h2;exact h2
    obtain ⟨x1,x2⟩:=hld.l2 h2';exact ⟨fun s f p=>by have:=x1 s f p;omega,x2.imp fun q _=>hcov q⟩
  ·intro h3;exfalso
   by_cases q:(N i).d6=3
   ·unfold D1 at h3;rw [show ((N i).d6==3)=true by simpa using q] at h3;cases h3
   ·unfold D1 at h3;rw [show ((N i).d6==3)=false by simpa using q] at h3;exact q h3
 ·rw [hk,f1p] at hs;split at hs
  ·exact h.kn i s f hi hs
  ·rename_i hge;rw [List.getElem?_singleton] at hs;split at hs
   ·injection hs with hs;subst hs;rw [show s=(N i).a0.length by omega];exact hc
   ·cases hs
end
section
variable {N:Int->j6} {V:VR} {P:PR} {M:MS} {i:Int}
theorem MV.other{m:j8}(h:m.a8=6\/m.a8=7\/m.a8=8):MV N V P m:=⟨fun k=>by omega,fun k=>by omega,fun k=>by omega,fun k=>by omega,fun k=>by omega⟩
theorem MV.c1{m:j8}(h:m.a8=1)(x:e99 m.a7 3=m.c8/\m.g7<=(N m.c8).a0.length):MV N V P m:=⟨fun _=>x,fun k=>by omega,fun k=>by omega,fun k=>by omega,fun k=>by omega⟩
theorem MV.c2{m:j8}(h:m.a8=2)(x:m.g7<=(N m.To).a0.length/\m.a7<=(N m.c8).Acc.g8/\(∀s b e,m.g7.toNat<=s->b<m.a7->V m.c8 s b e->∃v,m.a6[s-m.g7.toNat]?=some v/\b<=v.a7)/\∀k v,m.a6[k]?=some v->v.a7>0->v.a7<=m.a7/\V m.c8 (m.g7.toNat+k) v.a7 v.i0):MV N V P m:=⟨fun k=>by omega,fun _=>x,fun k=>by omega,fun k=>by omega,fun k=>by omega⟩
theorem MV.c3{m:j8}(h:m.a8=3)(x:P m.a7 m.g7.toNat m.i0):MV N V P m:=⟨fun k=>by omega,fun k=>by omega,fun _=>x,fun k=>by omega,fun k=>by omega⟩
theorem MV.c4{m:j8}(h:m.a8=4)(x:∃e,V m.c8 m.g7.toNat m.a7 e):MV N V P m:=⟨fun k=>by omega,fun k=>by omega,fun k=>by omega,fun _=>x,fun k=>by omega⟩
theorem MV.c5{m:j8}(h:m.a8=5)(x:a17 V m.g7.toNat m.i0):MV N V P m:=⟨fun k=>by omega,fun k=>by omega,fun k=>by omega,fun k=>by omega,fun _=>x⟩
def d5e(P:PR)(b:Int)(k:Nat)(e:m4):PR:=fun c s f=>P c s f\/(c=b/\s=k/\f=e)
theorem c4N{id q:Int}(hid:D3 id)(hq:D3 q)(h:(a0G id)[q.toNat]?=some true):q=id:=by
 unfold D3 at hid hq;obtain rfl|rfl|rfl:id=0\/id=1\/id=2:=by omega
 all_goals obtain rfl|rfl|rfl:q=0\/q=1\/q=2:=by omega
 all_goals first|rfl|(exact absurd h (by decide))
theorem PX.put(h:PX N V P M)(hi:D3 i)(hph:(N i).d6=2){q:List m4}{e:m4}(hn:a1U (N i) e){a:x6}(hc:J3 (N i).Acc (N i).a7 ((N i).a0.length:Int) e=some a)(hni:NI {N i with d9:=q,Acc:=a,d6:=3,c9:=e,a6:=a0G (N i).Id}):PX (upd N i {N i with d9:=q,Acc:=a,d6:=3,c9:=e,a6:=a0G (N i).Id}) (a7m V i (N i).a0.length (N i).a7 e) (d5e P (N i).a7 (N i).a0.length e) M:=by
 obtain ⟨k,hk0,hk,h1,h2,h3,h4,he,c1,c2⟩:=d2W h hi hc;obtain rfl:k=(N i).a0.length:=by omega
 obtain ⟨l1,l2⟩:=(h.ld i hi).l2 hph;have hown:=(h.ni i hi).1.ld.own (by omega);have hid:=(h.ni i hi).2;have hbs:=(h.ld i hi).bs (by omega);generalize hn':({N i with d9:=q,Acc:=a,d6:=3,c9:=e,a6:=a0G (N i).Id}:j6)=n' at hni ⊢;have f1:n'.Acc=a:=by rw [<-hn']
 have f2:n'.a0=(N i).a0:=by rw [<-hn']
 have f3:n'.a7=(N i).a7:=by rw [<-hn']
 have f4:n'.g9=(N i).g9:=by rw [<-hn']
 have f5:n'.d6=3:=by rw [<-hn']
 have f6:n'.c9=e:=by rw [<-hn']
 have f7:n'.a6=a0G i:=by rw [<-hn'];exact congrArg a0G hid
 have f8:n'.Id=i:=by rw [<-hn'];exact hid
 have hpr:(N i).Acc.g8<=n'.Acc.g8:=by rw [f1,h4];exact h3
 have hcov:∀a,Cov N V (N i) a->Cov (upd N i n') (a7m V i (N i).a0.length (N i).a7 e) n' a:=fun a c=>by
  refine ⟨by rw [f3];exact f0q c.pr (a7H hpr a),?_⟩;rw [f2,f3,f4];exact fun s b f hs hb v=>c.cv s b f hs hb (b9Q h3 c.pr hb v)
 have hsf:∀a,Cov N V (N i) a->Sf (upd N i n') (a7m V i (N i).a0.length (N i).a7 e) (N i).a7 (N i).a0.length e a:=fun a c=>by
  refine ⟨f0q c.pr (a7H hpr a),fun b' e' hb v => ?_⟩;have v:=b9Q h3 c.pr hb v;obtain ⟨w,w1,w2⟩:=c.cv _ _ _ (f0d _) hb v;have hb1:=(h.vp _ _ _ _ v).2.2.1;have hw:w.a7>0:=by omega
  have hno:∀{p:Prop},(∀v∈(N i).g9.drop (N i).a0.length,¬v.a7>0)->p:=fun hn=>by
   refine absurd hw (hn w ?_);exact e9W (i:=0) (by rw [f0Y];exact w1)
  cases hn with
  | best u hu hub =>
   rw [w1] at hu;injection hu with hu;subst hu;obtain ⟨y1,q1,y2⟩:=hbs _ _ w1 hw;exact ⟨w.a7,q1,w2,y1,.inl y2⟩
  | gap u hu hub hn=>exact absurd hw (hn w w1)
  | want hb hk hn=>exact hno hn
  | queue e he hk hn=>exact hno hn
 refine h.step hi ⟨hni,f8,hpr,by rw [f2];exact f0d _,fun _ _ _ _ v=>.inl v,fun q s c f v => ?_,fun _ _ _ p=>.inl p,fun b s f p => ?_,by rw [f1];exact c1,by rw [f1];exact c2,?_,by rw [f2];exact fun s e hk=>(h.kn i s e hi hk).mono fun _ _ _ _ v=>.inl v,fun m hm=>.inl hm⟩
 ·rcases v with v|⟨rfl,rfl,rfl,rfl⟩
  ·exact .inl v
  ·exact .inr ⟨rfl,h3,h1,by rw [f1,h4];exact f0b _,.inr ⟨rfl,rfl,rfl⟩⟩
 ·rcases p with p|⟨rfl,rfl,rfl⟩
  ·exact .inl p
  ·refine .inr ⟨f3.symm,f5,fun e' p' => ?_,l2.imp fun a _=>hsf a⟩;rcases p' with p'|⟨_,_,x⟩
   ·exact absurd (l1 _ _ p') (by omega)
   ·exact x
 ·refine ⟨fun _ => ?_,fun q=>by omega,fun q=>by omega,fun _ => ?_⟩
  ·rw [f3,f4];intro s v hs hv;obtain ⟨x1,q1,x2⟩:=hbs s v hs hv;exact ⟨x1,q1,.inl x2⟩
  ·rw [f2,f3,f6,f7];refine ⟨.inr ⟨rfl,rfl,rfl⟩,fun s f p => ?_,l2.imp fun a _=>hcov a,fun q hq hm => ?_⟩
   ·rcases p with p|⟨_,rfl,_⟩
    ·exact Nat.le_of_lt (l1 _ _ p)
    ·exact f0d _
   ·rw [c4N hi hq hm];exact .inr ⟨rfl,rfl,rfl,rfl⟩
theorem PX.queue(h:PX N V P M)(hi:D3 i){q:List m4}(hl:q.length<=4)(hm:∀e∈q,z3 e=true/\e.i8=false):PX (upd N i {N i with d9:=q}) V P M :=
 h.keep hi ((h.ni i hi).1.queue hl hm) (h.ni i hi).2 (f0b _) rfl rfl rfl rfl rfl rfl rfl rfl
theorem PX.propose(h:PX N V P M)(hi:D3 i):K7 N M i (L2 (N i)).1 (L2 (N i)).2:=by
 have hr:=a9y (h.ni i hi).1;unfold L2 at hr ⊢;cases hc:(N i).d6 != 2||decide (40<=(N i).a0.length)
 case true=>exact .same h
 rw [hc] at hr;simp only [cond_false] at hr ⊢;simp only [f0E,bne_eq_false_iff_eq,decide_eq_false_iff_not] at hc;obtain ⟨q,hq,hql,hqm,hqe⟩:=b0e (N i);cases hx:a0j (N i) with
 | mk x o =>
 rw [hx] at hr hq hqe;have hq:x={N i with d9:=q}:=hq;subst hq;have hQ:PX (upd N i {N i with d9:=q}) V P M:=h.queue hi (by have:=(h.ni i hi).1.ql;omega) fun e he=>(h.ni i hi).1.qs e (hqm e he)
 cases o with
 | none=>exact ⟨V,P,by rw [a62];exact hQ⟩
 | some e =>
  simp only [a5u] at hr ⊢;cases hcs:J3 (N i).Acc (N i).a7 ((N i).a0.length:Int) e with
  | none =>
   have:=hQ.down hi;rw [R1,a21] at this;exact ⟨V,P,by rw [a62];exact this⟩
  | some a =>
   rw [hcs] at hr;have hid:=(h.ni i hi).2;refine ⟨_,_,PX.send (h.put hi hc.1 (hqe e rfl) hcs hr.ni) fun m hm=>⟨hr.ms m hm,?_⟩⟩;obtain ⟨t,_,_,_,rfl⟩:=a26 (h.ni i hi).1.id hm;exact .c3 rfl (.inr ⟨rfl,rfl,rfl⟩)
theorem K7.then{n1 n2:j6}{l1 l2:List j8}(h1:K7 N M i n1 l1)(h2:∀V P,PX (upd N i n1) V P (snd M l1)->K7 (upd N i n1) (snd M l1) i n2 l2):K7 N M i n2 (l1++l2):=by
 obtain ⟨V1,P1,h1⟩:=h1;obtain ⟨V2,P2,h2⟩:=h2 V1 P1 h1;rw [a21,d2a] at h2;exact ⟨V2,P2,h2⟩
theorem PX.learn(h:PX N V P M)(hi:D3 i){e:m4}(he:z3 e=true)(hl:(N i).a0.length<40)(hc:a17 V (N i).a0.length e):K7 N M i (U8 (N i) e).1 (U8 (N i) e).2.1:=by
 have h1:=h.know hi he hl hc;have h2:=h1.free hi;rw [R1,a21] at h2;have h3:=h2.propose hi;rw [R1] at h3;obtain ⟨V',P',h3⟩:=h3;rw [a21] at h3;exact ⟨V',P',h3⟩
theorem PX.rise(h:PX N V P M)(hi:D3 i):K7 N M i (V3 (N i)).1 (V3 (N i)).2:=by
 have hni:=(h.ni i hi).1;have hid:=(h.ni i hi).2;have hr:=b0n hni;unfold V3 at hr ⊢;cases hd:decide (L6 (N i).Acc.g8 (N i).Id<0);case true=>exact .same h
 rw [hd] at hr;simp only [cond_false] at hr ⊢;simp only [decide_eq_false_iff_not] at hd;rcases b4d hni.pr hni.id with q|⟨q1,q2,q3,q4⟩
 ·omega
 generalize L6 (N i).Acc.g8 (N i).Id=b at *;have hld:∀(n':j6),n'.d6=1->n'.a7=b->n'.a0=(N i).a0->n'.g9=(N i).Acc.a6->n'.c8=a0G i->n'.Acc.g8=b->LD (upd N i n') V P n':=by
  intro n' e1 e2 e3 e4 e5 e6;refine ⟨fun _ => ?_,fun _=>⟨?_,?_⟩,fun q=>by omega,fun q=>by omega⟩
  ·rw [e2,e4];intro s v hs hv;have hv':=h.cur i s v hi hs hv;exact ⟨by have:=(h.vp _ _ _ _ hv').2.2.2;omega,i,hv'⟩
  ·rw [e2];intro s e p;have:=(h.po _ _ _ p).2;rw [q4,hid] at this;omega
  ·rw [e5];intro q hq hm;rw [c4N hi hq hm];refine ⟨by rw [e2,R1,e6];exact f0b _,?_⟩;rw [e4];exact fun s b e _ _ v=>h.max i s b e v
 refine ⟨V,P,PX.send (h.quiet hi hr.ni (hr.id.trans hid) (Int.le_of_lt q1) rfl rfl (hld _ rfl rfl rfl rfl (by rw [hid]) rfl)) fun m hm=>⟨hr.ms m hm,?_⟩⟩;obtain ⟨t,_,_,_,rfl⟩:=a26 hni.id hm;refine .c1 rfl ⟨q4,?_⟩;simp only [hid,R1];exact f0b _
theorem c4h{l:List Bool}(hl:l.length=3)(h:M1 l=true):Quo fun q=>l[q.toNat]?=some true:=by
 match l,hl with
 | [a,b,c],_ =>
  cases a<;>cases b<;>cases c<;>first|(exact absurd h (by decide))|exact ⟨0,1,by unfold D3;omega,by unfold D3;omega,by decide,rfl,rfl⟩|exact ⟨0,2,by unfold D3;omega,by unfold D3;omega,by decide,rfl,rfl⟩|exact ⟨1,2,by unfold D3;omega,by unfold D3;omega,by decide,rfl,rfl⟩
theorem c5l{l:List Bool}{f q:Int}(hf:D3 f)(hq:D3 q)(h:(l.set f.toNat true)[q.toNat]?=some true):q=f\/l[q.toNat]?=some true:=by
 unfold D3 at hf hq;rw [f02] at h;split at h
 ·left;omega
 ·exact .inr h
end
section
variable {N:Int->j6} {V:VR} {P:PR} {M:MS} {i:Int} {m:j8}
theorem K7.reply(h:PX N V P M){r:j8}(h1:MI r)(h2:r.a8=6\/r.a8=7\/r.a8=8):K7 N M i (N i) [r] :=
 ⟨V,P,by rw [a7G];exact h.send fun x hx=>by rw [e9Q.1 hx];exact ⟨h1,.other h2⟩⟩
theorem PX.tPrepare(h:PX N V P M)(hi:D3 i)(hm:M m)(hto:m.To=i)(hk:m.a8=1):K7 N M i (a1p (N i) m).1 (a1p (N i) m).2:=by
 obtain ⟨mi,mv⟩:=h.ms m hm;obtain ⟨hni,hid⟩:=h.ni i hi;have hr:=c8A hni mi hk;unfold a1p at hr ⊢;cases hp:G6 (N i).Acc m.a7 with
 | none =>
  rw [hp] at hr;exact .reply h (hr.ms _ (e9Q.2 rfl)) (.inl rfl)
 | some x =>
  rw [hp] at hr;have h1:=(h.promise hi hp).yield hi m.a7;rw [R1,a21] at h1;obtain ⟨rfl,b1,b2,b3⟩:=a3v hp;refine ⟨V,P,h1.send fun r hr'=>⟨hr.ms r hr',?_⟩⟩;rw [e9Q.1 hr'];obtain ⟨s1,s2⟩:=mv.k1 hk;have hacc:(L8 {N i with Acc:=⟨m.a7,(N i).Acc.a6⟩} m.a7).Acc=⟨m.a7,(N i).Acc.a6⟩:=d1s _ _;have hne:m.c8≠i:=fun q=>mi.ne (by rw [q,hto])
  have hsl:=mi.sl;refine .c2 rfl ⟨?_,?_,?_,?_⟩
  ·show m.g7<=((upd N i _ m.c8).a0.length:Int)
   rw [a8A _ hne];exact s2
  ·show m.a7<=(upd N i _ m.To).Acc.g8
   rw [hto,R1,hacc];exact f0b _
  ·show ∀s b e,m.g7.toNat<=s->b<m.a7->V m.To s b e->∃v,((N i).Acc.a6.drop m.g7.toNat)[s-m.g7.toNat]?=some v/\b<=v.a7
   rw [hto];intro s b e hs _ v;obtain ⟨w,w1,w2⟩:=h.max _ _ _ _ v;exact ⟨w,by rw [f0Y,show m.g7.toNat+(s-m.g7.toNat)=s by omega];exact w1,w2⟩
  ·show ∀k v,((N i).Acc.a6.drop m.g7.toNat)[k]?=some v->v.a7>0->v.a7<=m.a7/\V m.To (m.g7.toNat+k) v.a7 v.i0
   rw [hto];intro k v hk hv;rw [f0Y] at hk;have hv':=h.cur i _ v hi hk hv;exact ⟨f0q (h.vp _ _ _ _ hv').2.2.2 b3,hv'⟩
theorem PX.tAccept(h:PX N V P M)(hi:D3 i)(hm:M m)(hto:m.To=i)(hk:m.a8=3):K7 N M i (a1m (N i) m).1 (a1m (N i) m).2:=by
 obtain ⟨mi,mv⟩:=h.ms m hm;obtain ⟨hni,hid⟩:=h.ni i hi;have hr:=d0V hni mi hk;unfold a1m at hr ⊢;cases hp:J3 (N i).Acc m.a7 m.g7 m.i0 with
 | none =>
  rw [hp] at hr;exact .reply h (hr.ms _ (e9Q.2 rfl)) (.inl rfl)
 | some x =>
  rw [hp] at hr;have h1:=(h.vote hi hp (mv.k3 hk)).yield hi m.a7;rw [R1,a21] at h1;refine ⟨_,P,h1.send fun r hr'=>⟨hr.ms r hr',?_⟩⟩;rw [e9Q.1 hr'];refine .c4 rfl ⟨m.i0,.inr ⟨hto,rfl,rfl,rfl⟩⟩
theorem c5h{a b:List m7}{s:Nat}{v:m7}(h:a[s]?=some v\/b[s]?=some v):∃w,(C8 a b)[s]?=some w/\v.a7<=w.a7:=by
 rw [b0c];cases ha:a[s]? with
 | none =>
  rw [ha] at h;rcases h with h|h
  ·cases h
  ·rw [h];exact ⟨v,rfl,f0b _⟩
 | some x =>
  cases hb:b[s]? with
  | none =>
   rw [ha,hb] at h;rcases h with h|h
   ·injection h with h;subst h;exact ⟨x,rfl,f0b _⟩
   ·cases h
  | some y =>
   rw [ha,hb] at h;simp only;cases hd:decide (y.a7>x.a7)
   ·refine ⟨x,rfl,?_⟩;simp only [decide_eq_false_iff_not] at hd;rcases h with h|h
    ·injection h with h;subst h;exact f0b _
    ·injection h with h;subst h;omega
   ·refine ⟨y,rfl,?_⟩;simp only [decide_eq_true_eq] at hd;rcases h with h|h
    ·injection h with h;subst h;omega
    ·injection h with h;subst h;exact f0b _
theorem e8X{a b:List m7}{s:Nat}{w:m7}(h:(C8 a b)[s]?=some w):a[s]?=some w\/b[s]?=some w:=by
 rw [b0c] at h;cases ha:a[s]? with
 | none =>
  rw [ha] at h;cases hb:b[s]? with
  | none=>rw [hb] at h;cases h
  | some y=>rw [hb] at h;exact .inr h
 | some x =>
  rw [ha] at h;cases hb:b[s]? with
  | none=>rw [hb] at h;exact .inl h
  | some y =>
   rw [hb] at h;simp only at h;cases hd:decide (y.a7>x.a7)
   ·rw [hd] at h;exact .inl h
   ·rw [hd] at h;exact .inr h
theorem e49{vs:List m7}{k s:Nat}{v:m7}(h:(e9L k v0++vs)[s]?=some v)(hv:v.a7>0):k<=s/\vs[s-k]?=some v:=by
 rw [f1p] at h;split at h
 ·rw [List.getElem?_replicate] at h;split at h
  ·injection h with h;subst h;exact absurd hv (by decide)
  ·cases h
 ·rename_i hge;rw [f1o] at h hge;exact ⟨by omega,h⟩
theorem PX.tPromise(h:PX N V P M)(hi:D3 i)(hm:M m)(hto:m.To=i)(hk:m.a8=2):K7 N M i (a1B (N i) m).1 (a1B (N i) m).2:=by
 obtain ⟨mi,mv⟩:=h.ms m hm;obtain ⟨hni,hid⟩:=h.ni i hi;have hr:=c0t hni mi hk;have hsl:=mi.sl;have hfr:D3 m.c8:=mi.fr;obtain ⟨s1,s2,s3,s4⟩:=mv.k2 hk;rw [hto] at s1;unfold a1B at hr ⊢;cases hc:(N i).d6 != 1||m.a7 != (N i).a7
 case true=>exact .same h
 rw [hc] at hr;simp only [cond_false] at hr ⊢;simp only [f0E,bne_eq_false_iff_eq] at hc;obtain ⟨hp1,hbal⟩:=hc;have hld:=h.ld i hi;obtain ⟨l1,l2⟩:=hld.l1 hp1;have hfl:(N i).c8.length=3:=by
  rcases hni.ld with q|q|q|q
  ·omega
  ·exact q.2.2.1
  all_goals exact absurd q.1 (by omega)
 have hkl:m.g7.toNat<=(N i).a0.length:=by omega
 have hbs:∀s v,(C8 (N i).g9 (e9L m.g7.toNat v0++m.a6))[s]?=some v->v.a7>0->v.a7<(N i).a7/\∃q,V q s v.a7 v.i0:=by
  intro s v hs hv;rcases e8X hs with q|q
  ·exact hld.bs (by omega) s v q hv
  ·obtain ⟨g1,g2⟩:=e49 q hv;obtain ⟨g3,g4⟩:=s4 _ v g2 hv;rw [show m.g7.toNat+(s-m.g7.toNat)=s by omega] at g4;refine ⟨?_,_,g4⟩;have hpp:=(h.vp _ _ _ _ g4).2.1;rcases Int.lt_or_le v.a7 (N i).a7 with q|q
   ·exact q
   ·exact absurd (show P (N i).a7 s v.i0 by rw [show (N i).a7=v.a7 by omega];exact hpp) (l1 _ _)
 have hcov:∀(n':j6),n'.Acc=(N i).Acc->n'.a7=(N i).a7->n'.a0=(N i).a0->n'.g9=C8 (N i).g9 (e9L m.g7.toNat v0++m.a6)->∀q,D3 q->((N i).c8.set m.c8.toNat true)[q.toNat]?=some true->Cov (upd N i n') V n' q:=by
  intro n' e0 e1 e2 e3 q hq hf;have hpr:∀q,(N q).Acc.g8<=(upd N i n' q).Acc.g8:=a7H (by rw [e0];exact f0b _)
  rcases c5l hfr hq hf with rfl|hf
  ·refine ⟨by rw [e1,<-hbal];exact f0q s2 (hpr _),?_⟩;rw [e1,e2,e3];intro s b e hs hb v;obtain ⟨w,w1,w2⟩:=s3 s b e (by omega) (by rw [hbal];exact hb) v;have hw:(e9L m.g7.toNat v0++m.a6)[s]?=some w:=by
    rw [e9Z (by rw [f1o];omega),f1o];exact w1
   obtain ⟨u,u1,u2⟩:=c5h (a:=(N i).g9) (.inr hw);exact ⟨u,u1,by omega⟩
  ·have c:=l2 q hq hf;refine ⟨by rw [e1];exact f0q c.pr (hpr _),?_⟩;rw [e1,e2,e3];intro s b e hs hb v;obtain ⟨w,w1,w2⟩:=c.cv s b e hs hb v;obtain ⟨u,u1,u2⟩:=c5h (b:=e9L m.g7.toNat v0++m.a6) (.inl w1);exact ⟨u,u1,by omega⟩
 cases htw:M1 ((N i).c8.set m.c8.toNat true)
 ·rw [htw] at hr;simp only [cond_false] at hr ⊢;refine ⟨V,P,by rw [a62];exact h.quiet hi hr.ni hid (f0b _) rfl rfl ⟨fun _=>hbs,fun _=>⟨l1,fun q hq hf=>hcov _ (by rfl) (by rfl) (by rfl) (by rfl) q hq hf⟩,fun q=>absurd (hp1.symm.trans q) (by decide),fun q=>absurd (hp1.symm.trans q) (by decide)⟩⟩
 ·simp only [cond_true];have hq:=c4h (by rw [f0O];exact hfl) htw;have hown:=hni.ld.own (by omega);have hmv:m.a6.length<=40/\(∀v∈m.a6,VI v)/\m.g7+m.a6.length<=40:=by
   rcases mi.kd with q|q|q|q|q|q|q
   ·omega
   ·exact ⟨q.2.2.2.1.1,q.2.2.2.1.2,q.2.2.2.2⟩
   all_goals exact absurd q.1 (by omega)
  have hquiet:(N i).c9=zE/\(N i).a6=[]:=by
   rcases hni.ld with q|q|q|q
   ·omega
   ·exact ⟨q.2.2.2.2.1,q.2.2.2.2.2⟩
   all_goals exact absurd q.1 (by omega)
  have hni2:NI {N i with c8:=[],g9:=C8 (N i).g9 (e9L m.g7.toNat v0++m.a6),d6:=2}:=by
   refine ⟨hni.id,hni.pr,hni.vl,hni.vs,hni.kl,hni.ks,hni.sq,hni.ql,hni.qs,.inr (.inr (.inl ⟨rfl,⟨hown.b1,hown.b2,hown.mod,hown.pr,?_,?_⟩,rfl,hquiet.1,hquiet.2⟩)),hni.wt⟩
   ·have hbl:=hown.bl;show (C8 _ _).length<=40
    rw [a7o,e9T,f1o];omega
   ·intro v hv;rcases a8Z hv with q|q
    ·exact hown.bs v q
    ·rcases List.mem_append.1 q with q|q
     ·rw [(f0n.1 q).2];exact .inl rfl
     ·exact hmv.2.1 v q
  have h2:PX (upd N i {N i with c8:=[],g9:=C8 (N i).g9 (e9L m.g7.toNat v0++m.a6),d6:=2}) V P M :=
   h.quiet hi hni2 hid (f0b _) rfl rfl ⟨fun _=>hbs,fun q=>absurd (show (2:Int)=1 from q) (by decide),fun _=>⟨fun s e p=>absurd p (l1 s e),hq.imp fun q hq hf=>hcov _ (by rfl) (by rfl) (by rfl) (by rfl) q hq hf⟩,fun q=>absurd (show (2:Int)=3 from q) (by decide)⟩
  have h3:=h2.propose hi;rw [R1] at h3;obtain ⟨V',P',h3⟩:=h3;rw [a21] at h3;exact ⟨V',P',h3⟩
theorem PX.tAccepted(h:PX N V P M)(hi:D3 i)(hm:M m)(hto:m.To=i)(hk:m.a8=4):K7 N M i (a1V (N i) m).1 (a1V (N i) m).2.1:=by
 obtain ⟨mi,mv⟩:=h.ms m hm;obtain ⟨hni,hid⟩:=h.ni i hi;have hr:=d1B hni mi;have hfr:D3 m.c8:=mi.fr;obtain ⟨e',ve⟩:=mv.k4 hk;unfold a1V at hr ⊢;cases hc:(N i).d6 != 3||(m.a7 != (N i).a7||m.g7 != ((N i).a0.length:Int))
 case true=>exact .same h
 rw [hc] at hr;simp only [cond_false] at hr ⊢;simp only [f0E,bne_eq_false_iff_eq] at hc;obtain ⟨hp3,hbal,hsl⟩:=hc;rw [hsl,hbal,e92] at ve;have hld:=h.ld i hi;obtain ⟨l1,l2,l3,l4⟩:=hld.l3 hp3;have he':e'=(N i).c9:=h.pu _ _ _ _ (h.vp _ _ _ _ ve).2.1 l1;subst he';have hlead:Own (N i)/\(N i).c8=[]/\z3 (N i).c9=true/\(N i).a6.length=3/\(N i).a6[(N i).Id.toNat]?=some true/\(N i).a0.length<40:=by
  rcases hni.ld with q|q|q|q
  ·omega
  ·omega
  ·omega
  ·exact q.2
 obtain ⟨o1,o2,o3,o4,o5,o6⟩:=hlead;have hmk:∀q,D3 q->((N i).a6.set m.c8.toNat true)[q.toNat]?=some true->V q (N i).a0.length (N i).a7 (N i).c9:=by
  intro q hq hf;rcases c5l hfr hq hf with rfl|hf
  ·exact ve
  ·exact l4 q hq hf
 have hni2:NI {N i with a6:=(N i).a6.set m.c8.toNat true} :=
  ⟨hni.id,hni.pr,hni.vl,hni.vs,hni.kl,hni.ks,hni.sq,hni.ql,hni.qs,.inr (.inr (.inr ⟨hp3,o1,o2,o3,by simpa using o4,by
   show ((N i).a6.set m.c8.toNat true)[(N i).Id.toNat]?=some true
   rw [f02];split
   ·rename_i hq;have:=hni.id;rw [if_pos (by omega)]
   ·exact o5,o6⟩)),hni.wt⟩
 have h2:PX (upd N i {N i with a6:=(N i).a6.set m.c8.toNat true}) V P M:=by
  refine h.quiet hi hni2 hid (f0b _) rfl rfl ⟨fun h0=>hld.bs h0,fun q=>absurd (hp3.symm.trans q) (by decide),fun q=>absurd (hp3.symm.trans q) (by decide),fun _=>⟨l1,l2,l3.imp fun a _ c=>⟨f0q c.pr (a7H (n':={N i with a6:=(N i).a6.set m.c8.toNat true}) (f0b _) a),c.cv⟩,hmk⟩⟩
 cases htw:M1 ((N i).a6.set m.c8.toNat true)
 ·simp only [cond_false];exact ⟨V,P,by rw [a62];exact h2⟩
 ·rw [htw] at hr;simp only [cond_true] at hr ⊢;have hq:=c4h (by rw [f0O];exact o4) htw;have hch:a17 V (N i).a0.length (N i).c9:=by
   obtain ⟨a,b,ha,hb,hab,x,y⟩:=hq;exact ⟨(N i).a7,a,b,ha,hb,hab,hmk a ha x,hmk b hb y⟩
  refine K7.then (n1:={N i with a6:=(N i).a6.set m.c8.toNat true}) ⟨V,P,h2.send fun x hx=>⟨hr.ms x (f07 _ hx),?_⟩⟩ fun V2 P2 hp => ?_
  ·obtain ⟨t,_,_,_,rfl⟩:=a26 hni.id hx;exact .c5 rfl hch
  ·have h3:PX (upd N i {N i with a6:=(N i).a6.set m.c8.toNat true}) V P (snd M (H2 (N i).Id ⟨5,0,0,0,((N i).a0.length:Int),(N i).c9,[]⟩)):=h2.send fun x hx=>⟨hr.ms x (f07 _ hx),by
    obtain ⟨t,_,_,_,rfl⟩:=a26 hni.id hx;exact .c5 rfl hch⟩
   have h4:=h3.learn hi (e:=(N i).c9) o3 (by rw [R1];exact o6) (by rw [R1];exact hch);rw [R1] at h4;exact h4
theorem PX.tChosen(h:PX N V P M)(hi:D3 i)(hm:M m)(hto:m.To=i)(hk:m.a8=5):K7 N M i (a1X (N i) m).1 (a1X (N i) m).2.1:=by
 obtain ⟨mi,mv⟩:=h.ms m hm;obtain ⟨hni,hid⟩:=h.ni i hi;have hr:=c6Q hni mi hk;have hch:=mv.k5 hk;have hsl:=mi.sl;have hkd:m.g7<40/\z3 m.i0=true:=by
  rcases mi.kd with q|q|q|q|q|q|q
  ·omega
  ·omega
  ·omega
  ·exact ⟨q.2.2.1,q.2.2.2.1⟩
  all_goals exact absurd q.1 (by omega)
 unfold a1X at hr ⊢;cases h1:decide (m.g7<((N i).a0.length:Int));case true=>exact .same h
 rw [h1] at hr;cases h2:decide (m.g7>((N i).a0.length:Int))
 ·simp only [cond_false];simp only [decide_eq_false_iff_not] at h1 h2;refine h.learn hi hkd.2 (by omega) ?_;rw [show (N i).a0.length=m.g7.toNat by omega];exact hch
 ·rw [h2] at hr;simp only [cond_false,cond_true] at hr ⊢;exact .reply h (hr.ms _ (e9Q.2 rfl)) (.inr (.inr rfl))
theorem PX.tAsk(h:PX N V P M)(hi:D3 i)(hm:M m)(hto:m.To=i)(hk:m.a8=7):K7 N M i (a1k (N i) m).1 (a1k (N i) m).2:=by
 obtain ⟨mi,mv⟩:=h.ms m hm;obtain ⟨hni,hid⟩:=h.ni i hi;obtain ⟨e1,e2⟩:z3 m.i0=true/\m.i0.i8=false:=by
  rcases mi.kd with q|q|q|q|q|q|q
  ·omega
  ·omega
  ·omega
  ·omega
  ·omega
  ·exact ⟨q.2.2.2.1,q.2.2.2.2.1⟩
  ·omega
 unfold a1k;cases hc:(N i).d6==0||(decide (4<=(N i).d9.length)||M2 (N i).a0 m.i0.a5)
 case true=>exact .same h
 simp only [cond_false];simp only [f0E,decide_eq_false_iff_not] at hc;have h1:=h.queue hi (q:=(N i).d9++[m.i0]) (by rw [e9T,f0y];omega) (by
  intro e he;rcases List.mem_append.1 he with q|q
  ·exact hni.qs e q
  ·rw [e9Q.1 q];exact ⟨e1,e2⟩)
 have h2:=h1.propose hi;rw [R1] at h2;obtain ⟨V',P',h2⟩:=h2;rw [a21] at h2;exact ⟨V',P',h2⟩
theorem PX.tNeed(h:PX N V P M)(hi:D3 i)(hm:M m):K7 N M i (N i) (a3h (N i) m):=by
 obtain ⟨mi,mv⟩:=h.ms m hm;obtain ⟨hni,hid⟩:=h.ni i hi;have hr:=c7p hni mi;refine ⟨V,P,?_⟩;rw [a7G];refine h.send fun x hx=>⟨hr x hx,?_⟩
 unfold a3h at hx;obtain ⟨l,hl,hx⟩:=f0t.1 hx;obtain ⟨j,hj,rfl⟩:=List.mem_map.1 hl;unfold a0V at hx;cases hk:(N i).a0[m.g7.toNat+j]? with
 | none=>rw [hk] at hx;cases hx
 | some e =>
  rw [hk] at hx;rw [e9Q.1 hx];refine .c5 rfl ?_;exact h.kn i _ e hi hk
theorem PX.tRefuse(h:PX N V P M)(hi:D3 i)(b:Int):K7 N M i (L8 {N i with Acc:=(G6 (N i).Acc b).getD (N i).Acc} b) []:=by
 refine ⟨V,P,?_⟩;rw [a62];cases hp:G6 (N i).Acc b with
 | none=>exact h.yield hi b
 | some x =>
  have h1:=(h.promise hi hp).yield hi b;rw [R1,a21] at h1;exact h1
theorem PX.take(h:PX N V P M)(hi:D3 i)(hm:M m)(hto:m.To=i):K7 N M i (U4 (N i) m).1 (U4 (N i) m).2.1:=by
 unfold U4;by_cases k1:m.a8=1
 ·rw [show (m.a8==1)=true by simpa using k1];exact h.tPrepare hi hm hto k1
 rw [show (m.a8==1)=false by simpa using k1];by_cases k2:m.a8=2
 ·rw [show (m.a8==2)=true by simpa using k2];exact h.tPromise hi hm hto k2
 rw [show (m.a8==2)=false by simpa using k2];by_cases k3:m.a8=3
 ·rw [show (m.a8==3)=true by simpa using k3];exact h.tAccept hi hm hto k3
 rw [show (m.a8==3)=false by simpa using k3];by_cases k4:m.a8=4
 ·rw [show (m.a8==4)=true by simpa using k4];exact h.tAccepted hi hm hto k4
 rw [show (m.a8==4)=false by simpa using k4];by_cases k5:m.a8=5
 ·rw [show (m.a8==5)=true by simpa using k5];exact h.tChosen hi hm hto k5
 rw [show (m.a8==5)=false by simpa using k5];by_cases k6:m.a8=6
 ·rw [show (m.a8==6)=true by simpa using k6];exact h.tRefuse hi m.a7
 rw [show (m.a8==6)=false by simpa using k6];by_cases k7:m.a8=7
 ·rw [show (m.a8==7)=true by simpa using k7];exact h.tAsk hi hm hto k7
 rw [show (m.a8==7)=false by simpa using k7];cases m.a8==8
 ·exact .same h
 ·exact h.tNeed hi hm
end
section
variable {N:Int->j6} {V:VR} {P:PR} {M:MS} {i:Int}
theorem K7.to{n1 n2:j6}{l:List j8}(h1:PX (upd N i n1) V P M)(h2:K7 (upd N i n1) M i n2 l):K7 N M i n2 l:=by
 obtain ⟨V',P',h2⟩:=h2;rw [a21] at h2;exact ⟨V',P',h2⟩
theorem PX.ask(h:PX N V P M)(hi:D3 i){p:List o9}(hp:t8 p):K7 N M i (J4 (N i) p).1 (J4 (N i) p).2:=by
 obtain ⟨hni,hid⟩:=h.ni i hi;have hr:=a80 hni hp;rw [a2f] at hr ⊢;cases hc:J5 (N i) p;case false=>exact .same h
 rw [hc] at hr;have hn:=hni.asked hp hc;have h1:PX (upd N i (N9 (N i) p)) V P M:=h.keep hi hn hid (f0b _) rfl rfl rfl rfl rfl rfl rfl rfl;simp only [cond_true] at hr ⊢;cases h2:(N i).d6==2
 ·rw [h2] at hr;simp only [cond_false] at hr ⊢;refine .to h1 ⟨V,P,?_⟩;rw [a21];refine h1.send fun x hx=>⟨hr.ms x hx,?_⟩
  cases h0:(N i).d6==0
  ·rw [h0] at hx;cases hx
  ·rw [h0] at hx;obtain ⟨t,_,_,_,rfl⟩:=a26 hni.id hx;exact .other (.inr (.inl rfl))
 ·simp only [cond_true];have h3:=h1.propose hi;rw [R1] at h3;exact .to h1 h3
theorem PX.retry(h:PX N V P M)(hi:D3 i):K7 N M i (U0 (N i)).1 (U0 (N i)).2:=by
 obtain ⟨hni,hid⟩:=h.ni i hi;have hr:=b0j hni;have hneed:∀x∈H2 (N i).Id ⟨8,0,0,0,((N i).a0.length:Int),zE,[]⟩,MV N V P x:=fun x hx=>by
  obtain ⟨t,_,_,_,rfl⟩:=a26 hni.id hx;exact .other (.inr (.inr rfl))
 have go:∀{l:List j8},(∀x∈H2 (N i).Id ⟨8,0,0,0,((N i).a0.length:Int),zE,[]⟩++l,MI x)->(∀x∈l,MV N V P x)->K7 N M i (N i) (H2 (N i).Id ⟨8,0,0,0,((N i).a0.length:Int),zE,[]⟩++l):=fun {l} hm hv =>
  ⟨V,P,by rw [a7G];exact h.send fun x hx=>⟨hm x hx,(List.mem_append.1 hx).elim (hneed x) (hv x)⟩⟩
 unfold U0 at hr ⊢;by_cases h1:(N i).d6=1
 ·rw [show ((N i).d6==1)=true by simpa using h1] at hr ⊢;refine go hr.ms fun x hx => ?_
  obtain ⟨t,_,_,_,rfl⟩:=a26 hni.id hx;exact .c1 rfl ⟨(hni.ld.own (by omega)).mod,by show _<=((N (N i).Id).a0.length:Int);rw [hid];exact f0b _⟩
 rw [show ((N i).d6==1)=false by simpa using h1] at hr ⊢;by_cases h2:(N i).d6=2
 ·rw [show ((N i).d6==2)=true by simpa using h2] at hr ⊢;simp only [cond_true,cond_false] at hr ⊢;have hs:PX N V P (snd M (H2 (N i).Id ⟨8,0,0,0,((N i).a0.length:Int),zE,[]⟩)):=h.send fun x hx=>⟨hr.ms x (f07 _ hx),hneed x hx⟩
  obtain ⟨V',P',h3⟩:=hs.propose hi;rw [d2a] at h3;exact ⟨V',P',h3⟩
 rw [show ((N i).d6==2)=false by simpa using h2] at hr ⊢;by_cases h3:(N i).d6=3
 ·rw [show ((N i).d6==3)=true by simpa using h3] at hr ⊢;refine go hr.ms fun x hx => ?_
  obtain ⟨t,_,_,_,rfl⟩:=a26 hni.id hx;exact .c3 rfl ((h.ld i hi).l3 h3).1
 rw [show ((N i).d6==3)=false by simpa using h3] at hr ⊢;cases hb:(N i).i7
 ·rw [hb] at hr;refine ⟨V,P,?_⟩;show PX (upd N i (N i)) V P _
  rw [a7G];exact h.send fun x hx=>⟨hr.ms x hx,hneed x hx⟩
 ·rw [hb] at hr;refine go hr.ms fun x hx => ?_
  obtain ⟨t,_,_,_,rfl⟩:=a26 hni.id hx;exact .other (.inr (.inl rfl))
theorem PX.fall(h:PX N V P M)(hi:D3 i):K7 N M i (a0J (N i)) [] :=
 ⟨V,P,by rw [a62];exact h.quiet hi (h.ni i hi).1.fall (h.ni i hi).2 (f0b _) rfl rfl (.none rfl)⟩
end
def u9(w:m6)(j:Int):j6:=if 0<=j/\j<=2 then H4 w j else C0 0
def PW(w:m6):Prop := ∃V P M,PX (u9 w) V P M/\∀m∈w.b9,M m
theorem a2G{w:m6}{j:Int}(h:D3 j):u9 w j=H4 w j:=if_pos h
theorem e1F{w w':m6}(h:w'.a9=w.a9):u9 w'=u9 w:=by
 funext j;unfold u9 H4;rw [h]
theorem e6Q{w:m6}(h:WI w){i:Nat}(hi:i<3)(n:j6){w':m6}(hw:w'.a9=w.a9.set i n):u9 w'=upd (u9 w) (i:Int) n:=by
 have hl:=h.nl;funext j
 unfold u9 upd H4;rw [hw];show _=if j=(i:Int) then n else if 0<=j/\j<=2 then w.a9.getD j.toNat (C0 0) else C0 0
 by_cases hj:0<=j/\j<=2
 ·rw [if_pos hj,if_pos hj];by_cases q:j=(i:Int)
  ·subst q;rw [if_pos rfl,e92,e9X,f0F (by omega)];rfl
  ·rw [if_neg q,e9X,e90 (by omega),<-e9X]
 ·rw [if_neg hj,if_neg hj,if_neg (by omega)]
theorem PW.put{w w':m6}(h:WI w){i:Nat}(hi:i<3){n':j6}{l:List j8}{V:VR}{P:PR}{M:MS}(hM:∀m∈w.b9,M m)(hg:K7 (u9 w) M (i:Int) n' l)(hn:w'.a9=w.a9.set i n')(hm:∀m∈w'.b9,m∈w.b9\/m∈l):PW w':=by
 obtain ⟨V',P',h'⟩:=hg;refine ⟨V',P',_,by rw [e6Q h hi n' hn];exact h',fun m hm' => ?_⟩;exact (hm m hm').imp (hM m) id
theorem PW.less{w w':m6}(h:PW w)(hn:w'.a9=w.a9)(hm:∀m∈w'.b9,m∈w.b9):PW w':=by
 obtain ⟨V,P,M,h1,h2⟩:=h;exact ⟨V,P,M,by rw [e1F hn];exact h1,fun m q=>h2 m (hm m q)⟩
theorem a1N{w:m6}{l:List j8}{m:j8}(h:m∈(a0l w l).b9):m∈w.b9\/m∈l :=
 (List.mem_append.1 h).imp id f0l
theorem b7v{w:m6}{i:Int}{m:j8}(h:m∈(a2E w i).b9):m∈w.b9 :=
 (List.mem_append.1 h).elim f0l f0u
theorem e7e{w:m6}(h:WI w)(hp:PW w){e:p7}(he:K6 e):PW (C4 w e):=by
 obtain ⟨V,P,M,h1,hM⟩:=hp;have hp:PW w:=⟨V,P,M,h1,hM⟩
 unfold C4;cases hk:e.a8==2||(e.a8==3||e.a8==4)
 ·simp only [cond_false];cases hA:o7 e.A 0 2
  ·exact hp
  simp only [e9O,cond_false];rw [I4] at hA;obtain ⟨i,hi⟩:∃i:Nat,e.A=(i:Int):=⟨e.A.toNat,by omega⟩
  have hi3:i<3:=by omega
  have hD:D3 (i:Int):=by unfold D3;omega
  rw [hi];have hN:u9 w (i:Int)=H4 w (i:Int):=a2G hD;cases e.a8==1
  ·cases e.a8==5
   ·cases e.a8==6
    ·cases e.a8==7
     ·exact hp
     ·have hg:=h1.fall hD;rw [hN] at hg;exact PW.put (V:=V) (P:=P) h hi3 hM hg rfl fun m hm=>.inl hm
    ·have hg:=h1.retry hD;rw [hN] at hg;exact PW.put (V:=V) (P:=P) h hi3 hM hg rfl fun m hm=>a1N (w:=M7 w _ _) hm
   ·have hg:=h1.rise hD;rw [hN] at hg;exact PW.put (V:=V) (P:=P) h hi3 hM hg rfl fun m hm=>a1N (w:=M7 w _ _) hm
  ·simp only [cond_true];unfold a3c;cases decide (60<=w.d7.length)
   ·have hg:=h1.ask hD (z7.fits he (by decide));rw [hN] at hg;simp only [cond_false];cases decide ((J4 (H4 w (i:Int)) e.i5).1.Seq>(H4 w (i:Int)).Seq)
    ·exact PW.put (V:=V) (P:=P) h hi3 hM hg rfl fun m hm=>a1N (w:=M7 w _ _) hm
    ·exact PW.put (V:=V) (P:=P) h hi3 hM hg rfl fun m hm=>a1N (w:=M7 {w with d7:=w.d7++[_]} _ _) hm
   ·exact hp
 ·simp only [cond_true];unfold a0F;cases hA:decide (0<=e.A)
  ·exact hp
  simp only [cond_true];cases hm:w.b9[e.A.toNat]? with
  | none=>exact hp
  | some m =>
   have hmem:=e9W hm;simp only;cases e.a8==4
   ·cases e.a8==3
    ·simp only [cond_false];have hmi:=(h1.ms m (hM m hmem)).1;have hto:=hmi.to;obtain ⟨t,htt⟩:∃t:Nat,m.To=(t:Int):=⟨m.To.toNat,by omega⟩
     have hD:D3 (t:Int):=by unfold D3;omega
     have hN:u9 w (t:Int)=H4 w (t:Int):=a2G hD;have hg:=h1.take hD (hM m hmem) htt;rw [hN] at hg;rw [htt];exact PW.put (V:=V) (P:=P) h (show t<3 by omega) hM hg rfl fun x hx=>(a1N (w:=M7 (a2E w e.A) _ _) hx).imp (fun q=>b7v q) id
    ·exact hp.less rfl fun x hx=>b7v hx
   ·exact hp.less rfl fun x hx=>(a1N hx).elim id fun q=>by rw [e9Q.1 q];exact hmem
theorem d31:PW N7:=by
 have hn:∀j,D3 j->u9 N7 j=C0 j:=fun j hj=>by
  rw [a2G hj];unfold D3 at hj;obtain rfl|rfl|rfl:j=0\/j=1\/j=2:=by omega
  all_goals rfl
 refine ⟨fun _ _ _ _=>False,fun _ _ _=>False,fun _=>False,⟨fun i hi => ?_,fun _ _ _ _ v=>v.elim,fun i s v hi hs _ => ?_,fun _ _ _ _ v=>v.elim,fun _ _ _ _ p=>p.elim,fun _ _ _ p=>p.elim,fun _ _ _ p=>p.elim,fun i hi => ?_,fun i s e hi hk => ?_,fun _ hm=>hm.elim⟩,fun m hm=>by cases hm⟩
 ·rw [hn i hi];exact ⟨NI.open hi,rfl⟩
 ·rw [hn i hi] at hs;simp [C0] at hs
 ·rw [hn i hi];exact .none rfl
 ·rw [hn i hi] at hk;simp [C0] at hk
theorem c8W:∀{l:List p7} {w:m6},WI w->PW w->(∀e∈l,K6 e)->PW (a0X w l)
 | [],_,_,h,_=>h
 | e::l,w,hw,h,he=>c8W (l:=l) (w:=C4 w e) (b0S hw (he e (by simp))) (e7e hw h (he e (by simp))) fun x hx=>he x (by simp [hx])
structure ND(L:m4->Prop)(n:j6):Prop where
 kn:∀e∈n.a0,L e
 av:∀v∈n.Acc.a6,v.a7>0->L v.i0
 bv:∀v∈n.g9,v.a7>0->L v.i0
 cu:n.d6=3->L n.c9
 wt:n.i7=true->L n.b7
 qu:∀e∈n.d9,L e
structure ML(L:m4->Prop)(m:j8):Prop where
 en:m.a8=3\/m.a8=5\/m.a8=7->L m.i0
 vs:∀v∈m.a6,v.a7>0->L v.i0
def TO(n x:j6)(ts:List m9):Prop:=ts=[]\/(n.i7=true/\x.i7=false/\∃k,x.a0.findIdx? (H1 n.b7.a5)=some k/\ts=[⟨n.Id,n.b7.a5,T2 x.a0 k,bif T2 x.a0 k==0 then a1i x.a0 n.b7.a5 else 0⟩])
structure Act(L:m4->Prop)(n x:j6)(l:List j8)(ts:List m9):Prop where
 id:x.Id=n.Id
 sq:x.Seq=n.Seq
 kn:∃t,x.a0=n.a0++t
 bw:(x.i7=n.i7/\x.b7=n.b7)\/x.i7=false
 nd:ND L x
 ml:∀m∈l,ML L m
 to:TO n x ts
section
variable {L:m4->Prop} {n:j6} {m:j8}
theorem Act.same(h:ND L n):Act L n n [] []:=⟨rfl,rfl,⟨[],by simp⟩,.inl ⟨rfl,rfl⟩,h,by simp,.inl rfl⟩
theorem Act.of{x:j6}{l:List j8}(e1:x.Id=n.Id)(e2:x.Seq=n.Seq)(e3:x.a0=n.a0)(e4:x.i7=n.i7)(e5:x.b7=n.b7)(h:ND L x)(hm:∀m∈l,ML L m):Act L n x l [] :=
 ⟨e1,e2,⟨[],by rw [e3];simp⟩,.inl ⟨e4,e5⟩,h,hm,.inl rfl⟩
theorem ML.plain(h1:m.a8≠3)(h2:m.a8≠5)(h3:m.a8≠7)(hv:m.a6=[]):ML L m:=⟨fun h=>by omega,by rw [hv];simp⟩
theorem ML.has(hv:m.a6=[])(h:L m.i0):ML L m:=⟨fun _=>h,by rw [hv];simp⟩
theorem ML.all{id:Int}{x:j8}(h:ML L m)(hx:x∈H2 id m):ML L x:=by
 unfold H2 at hx;obtain ⟨t,_,rfl⟩:=List.mem_map.1 hx;exact ⟨h.en,h.vs⟩
theorem ND.down(h:ND L n):ND L (a3Y n):=⟨h.kn,h.av,by simp [a3Y],fun q=>absurd (show (0:Int)=3 from q) (by decide),h.wt,h.qu⟩
theorem ND.yield(h:ND L n)(b:Int):ND L (L8 n b):=by
 unfold L8;cases n.d6 != 0&&decide (b>n.a7)
 ·exact h
 ·exact h.down
theorem c0W(n:j6)(b:Int):(L8 n b).Seq=n.Seq/\(L8 n b).a0=n.a0/\(L8 n b).i7=n.i7/\(L8 n b).b7=n.b7:=by
 unfold L8;cases n.d6 != 0&&decide (b>n.a7)<;>exact ⟨rfl,rfl,rfl,rfl⟩
theorem ND.next(h:ND L n)(h0:L eN){e:m4}(hn:a1U n e):L e:=by
 cases hn with
 | best v hv hb=>exact h.bv v (e9W hv) hb
 | gap=>exact h0
 | want hb=>exact h.wt hb
 | queue e he=>exact h.qu e he
theorem d2f{a x:x6}{b s:Int}{e:m4}(hc:J3 a b s e=some x)(h:∀v∈a.a6,v.a7>0->L v.i0)(he:L e):∀v∈x.a6,v.a7>0->L v.i0:=by
 obtain ⟨k,rfl,_,_,_,_,_,rfl⟩:=b6N hc;intro v hv hb;rcases d2e hv with q|q
 ·rcases c2a q with q|q
  ·exact h v q hb
  ·rw [q] at hb;exact absurd hb (by decide)
 ·rw [q];exact he
theorem Act.propose(h:ND L n)(h0:L eN):Act L n (L2 n).1 (L2 n).2 []:=by
 unfold L2;cases n.d6 != 2||decide (40<=n.a0.length)
 case true=>exact .same h
 simp only [cond_false];obtain ⟨q,hq,hql,hqm,hqe⟩:=b0e n;cases hx:a0j n with
 | mk x o =>
 rw [hx] at hq hqe;have hq:x={n with d9:=q}:=hq;subst hq;have hQ:ND L {n with d9:=q}:=⟨h.kn,h.av,h.bv,h.cu,h.wt,fun e he=>h.qu e (hqm e he)⟩
 cases o with
 | none=>exact .of rfl rfl rfl rfl rfl hQ (by simp)
 | some e =>
  have he:=h.next h0 (hqe e rfl);simp only [a5u];cases hc:J3 n.Acc n.a7 (n.a0.length:Int) e with
  | none=>exact .of rfl rfl rfl rfl rfl hQ.down (by simp)
  | some a=>exact .of rfl rfl rfl rfl rfl ⟨h.kn,d2f hc h.av he,h.bv,fun _=>he,h.wt,hQ.qu⟩ fun m hm=>(ML.has rfl he).all hm
theorem Act.thenP{a:j6}{l:List j8}{ts:List m9}(h:Act L n a l ts)(h0:L eN):Act L n (L2 a).1 (l++(L2 a).2) ts:=by
 have hp:=Act.propose h.nd h0;have hk:=b55 a;obtain ⟨t,ht⟩:=h.kn;refine ⟨hk.id.trans h.id,hk.seq.trans h.sq,⟨t,hk.known.trans ht⟩,h.bw.imp (fun q=>⟨hk.busy.trans q.1,hk.want.trans q.2⟩) fun q=>hk.busy.trans q,hp.nd,fun m hm=>(List.mem_append.1 hm).elim (h.ml m) (hp.ml m),?_⟩;unfold TO;rw [hk.known,hk.busy];exact h.to
theorem Act.know{e:m4}(h:ND L n)(he:L e):Act L n (S9 (D1 n e)).1 [] (S9 (D1 n e)).2:=by
 have k1:(D1 n e).Id=n.Id:=b5w n e;have k2:(D1 n e).Seq=n.Seq:=by unfold D1;cases n.d6==3<;>rfl
 have k3:(D1 n e).a0=n.a0++[e]:=b8N n e;have k4:(D1 n e).i7=n.i7/\(D1 n e).b7=n.b7:=by unfold D1;cases n.d6==3<;>exact ⟨rfl,rfl⟩
 have kk:∀x∈n.a0++[e],L x:=fun x hx=>(List.mem_append.1 hx).elim (h.kn x) fun q=>by rw [e9Q.1 q];exact he
 have hnd:ND L (D1 n e):=by
  unfold D1;cases hp:n.d6==3
  ·exact ⟨kk,h.av,h.bv,h.cu,h.wt,h.qu⟩
  ·exact ⟨kk,h.av,h.bv,fun q=>absurd (show (2:Int)=3 from q) (by decide),h.wt,h.qu⟩
 rcases a9P (D1 n e) with q|⟨k,q1,q2,q⟩<;>rw [q]
 ·exact ⟨k1,k2,⟨[e],k3⟩,.inl k4,hnd,by simp,.inl rfl⟩
 ·refine ⟨k1,k2,⟨[e],k3⟩,.inr rfl,⟨hnd.kn,hnd.av,hnd.bv,hnd.cu,fun q=>(by cases q),hnd.qu⟩,by simp,.inr ⟨by rw [<-k4.1];exact q1,rfl,k,by rw [<-k4.2];exact q2,?_⟩⟩;rw [<-k4.2,<-k1];rfl
theorem Act.learn{e:m4}(h:ND L n)(h0:L eN)(he:L e):Act L n (U8 n e).1 (U8 n e).2.1 (U8 n e).2.2:=by
 have:=(Act.know h he).thenP h0;rw [f0r] at this;exact this
theorem e8L{α:Type}{l:List α}{k:Nat}{x:α}(h:x∈l.drop k):x∈l:=f0u h
theorem Act.take(h:ND L n)(h0:L eN)(hm:ML L m)(hmi:MI m):Act L n (U4 n m).1 (U4 n m).2.1 (U4 n m).2.2:=by
 unfold U4;by_cases k1:m.a8=1
 ·rw [show (m.a8==1)=true by simpa using k1];simp only [cond_true];unfold a1p;cases hp:G6 n.Acc m.a7 with
  | none=>exact .of rfl rfl rfl rfl rfl h fun x hx=>by rw [e9Q.1 hx];exact .plain (by simp [L5]) (by simp [L5]) (by simp [L5]) rfl
  | some a =>
   obtain ⟨rfl,_⟩:=a3v hp;obtain ⟨y1,y2,y3,y4⟩:=c0W {n with Acc:=⟨m.a7,n.Acc.a6⟩} m.a7;have hg:ND L {n with Acc:=⟨m.a7,n.Acc.a6⟩}:=⟨h.kn,h.av,h.bv,h.cu,h.wt,h.qu⟩
   refine .of (a6o _ _) y1 y2 y3 y4 (hg.yield _) fun x hx => ?_
   rw [e9Q.1 hx];exact ⟨fun q=>by simp [L5] at q,fun v hv=>h.av v (e8L hv)⟩
 rw [show (m.a8==1)=false by simpa using k1];by_cases k2:m.a8=2
 ·rw [show (m.a8==2)=true by simpa using k2];simp only [cond_true,cond_false];unfold a1B;have hb:∀v∈C8 n.g9 (e9L m.g7.toNat v0++m.a6),v.a7>0->L v.i0:=fun v hv hb=>by
   rcases a8Z hv with q|q
   ·exact h.bv v q hb
   ·rcases List.mem_append.1 q with q|q
    ·rw [(f0n.1 q).2] at hb;exact absurd hb (by decide)
    ·exact hm.vs v q hb
  cases n.d6 != 1||m.a7 != n.a7
  ·simp only [cond_false];cases M1 (n.c8.set m.c8.toNat true)
   ·exact .of rfl rfl rfl rfl rfl ⟨h.kn,h.av,hb,h.cu,h.wt,h.qu⟩ (by simp)
   ·simp only [cond_true];have h1:Act L n {n with c8:=[],g9:=C8 n.g9 (e9L m.g7.toNat v0++m.a6),d6:=2} [] []:=.of rfl rfl rfl rfl rfl ⟨h.kn,h.av,hb,fun q=>absurd (show (2:Int)=3 from q) (by decide),h.wt,h.qu⟩ (by simp);have h2:=h1.thenP h0;rw [f0r] at h2;exact h2
  ·exact .same h
 rw [show (m.a8==2)=false by simpa using k2];by_cases k3:m.a8=3
 ·rw [show (m.a8==3)=true by simpa using k3];simp only [cond_true,cond_false];unfold a1m;cases hp:J3 n.Acc m.a7 m.g7 m.i0 with
  | none=>exact .of rfl rfl rfl rfl rfl h fun x hx=>by rw [e9Q.1 hx];exact .plain (by simp [L5]) (by simp [L5]) (by simp [L5]) rfl
  | some a =>
   obtain ⟨y1,y2,y3,y4⟩:=c0W {n with Acc:=a} m.a7;have hg:ND L {n with Acc:=a}:=⟨h.kn,d2f hp h.av (hm.en (.inl k3)),h.bv,h.cu,h.wt,h.qu⟩
   refine .of (a6o _ _) y1 y2 y3 y4 (hg.yield _) fun x hx => ?_
   rw [e9Q.1 hx];exact .plain (by simp [L5]) (by simp [L5]) (by simp [L5]) rfl
 rw [show (m.a8==3)=false by simpa using k3];by_cases k4:m.a8=4
 ·rw [show (m.a8==4)=true by simpa using k4];simp only [cond_true,cond_false];unfold a1V;cases hc:n.d6 != 3||(m.a7 != n.a7||m.g7 != (n.a0.length:Int))
  ·simp only [cond_false];simp only [f0E,bne_eq_false_iff_eq] at hc;have hcu:=h.cu hc.1;have h1:ND L {n with a6:=n.a6.set m.c8.toNat true}:=⟨h.kn,h.av,h.bv,h.cu,h.wt,h.qu⟩
   cases M1 (n.a6.set m.c8.toNat true)
   ·exact .of rfl rfl rfl rfl rfl h1 (by simp)
   ·simp only [cond_true];have h2:=Act.learn h1 h0 hcu;exact ⟨h2.id,h2.sq,h2.kn,h2.bw,h2.nd,fun x hx=>(List.mem_append.1 hx).elim (fun q=>(ML.has rfl hcu).all q) (h2.ml x),h2.to⟩
  ·exact .same h
 rw [show (m.a8==4)=false by simpa using k4];by_cases k5:m.a8=5
 ·rw [show (m.a8==5)=true by simpa using k5];simp only [cond_true,cond_false];unfold a1X;cases decide (m.g7<(n.a0.length:Int))
  ·cases decide (m.g7>(n.a0.length:Int))
   ·exact .learn h h0 (hm.en (.inr (.inl k5)))
   ·exact .of rfl rfl rfl rfl rfl h fun x hx=>by rw [e9Q.1 hx];exact .plain (by simp [L5]) (by simp [L5]) (by simp [L5]) rfl
  ·exact .same h
 rw [show (m.a8==5)=false by simpa using k5];by_cases k6:m.a8=6
 ·rw [show (m.a8==6)=true by simpa using k6];simp only [cond_true,cond_false];have hg:ND L {n with Acc:=(G6 n.Acc m.a7).getD n.Acc}:=by
   cases hp:G6 n.Acc m.a7 with
   | none=>exact h
   | some a =>
    obtain ⟨rfl,_⟩:=a3v hp;exact ⟨h.kn,h.av,h.bv,h.cu,h.wt,h.qu⟩
  obtain ⟨y1,y2,y3,y4⟩:=c0W {n with Acc:=(G6 n.Acc m.a7).getD n.Acc} m.a7;exact .of (a6o _ _) y1 y2 y3 y4 (hg.yield _) (by simp)
 rw [show (m.a8==6)=false by simpa using k6];by_cases k7:m.a8=7
 ·rw [show (m.a8==7)=true by simpa using k7];simp only [cond_true,cond_false];unfold a1k;cases n.d6==0||(decide (4<=n.d9.length)||M2 n.a0 m.i0.a5)
  ·simp only [cond_false];have h1:Act L n {n with d9:=n.d9++[m.i0]} [] []:=.of rfl rfl rfl rfl rfl ⟨h.kn,h.av,h.bv,h.cu,h.wt,fun e he=>(List.mem_append.1 he).elim (h.qu e) fun q=>by rw [e9Q.1 q];exact hm.en (.inr (.inr k7))⟩ (by simp);have h2:=h1.thenP h0;rw [f0r] at h2;exact h2
  ·exact .same h
 rw [show (m.a8==7)=false by simpa using k7];cases m.a8==8
 ·exact .same h
 ·refine .of rfl rfl rfl rfl rfl h fun x hx => ?_
  obtain ⟨l,hl,hx⟩:=f0t.1 hx;obtain ⟨j,hj,rfl⟩:=List.mem_map.1 hl;unfold a0V at hx;cases hk:n.a0[m.g7.toNat+j]? with
  | none=>rw [hk] at hx;cases hx
  | some e =>
   rw [hk] at hx;rw [e9Q.1 hx];exact .has rfl (h.kn e (e9W hk))
theorem Act.rise(h:ND L n):Act L n (V3 n).1 (V3 n).2 []:=by
 unfold V3;cases decide (L6 n.Acc.g8 n.Id<0)
 ·refine .of rfl rfl rfl rfl rfl ⟨h.kn,h.av,h.av,fun q=>absurd (show (1:Int)=3 from q) (by decide),h.wt,h.qu⟩ fun x hx=>(ML.plain (by simp) (by simp) (by simp) rfl).all hx
 ·exact .same h
theorem Act.retry(h:ND L n)(h0:L eN):Act L n (U0 n).1 (U0 n).2 []:=by
 have hn:∀x∈H2 n.Id ⟨8,0,0,0,(n.a0.length:Int),zE,[]⟩,ML L x:=fun x hx=>(ML.plain (by simp) (by simp) (by simp) rfl).all hx
 have M1:∀{l:List j8},(∀x∈l,ML L x)->Act L n n (H2 n.Id ⟨8,0,0,0,(n.a0.length:Int),zE,[]⟩++l) []:=fun {l} hl=>.of rfl rfl rfl rfl rfl h fun x hx=>(List.mem_append.1 hx).elim (hn x) (hl x)
 unfold U0;by_cases h1:n.d6=1
 ·rw [show (n.d6==1)=true by simpa using h1];exact M1 fun x hx=>(ML.plain (by simp) (by simp) (by simp) rfl).all hx
 rw [show (n.d6==1)=false by simpa using h1];by_cases h2:n.d6=2
 ·rw [show (n.d6==2)=true by simpa using h2];have hp:Act L n n (H2 n.Id ⟨8,0,0,0,(n.a0.length:Int),zE,[]⟩) []:=.of rfl rfl rfl rfl rfl h hn;exact hp.thenP h0
 rw [show (n.d6==2)=false by simpa using h2];by_cases h3:n.d6=3
 ·rw [show (n.d6==3)=true by simpa using h3];exact M1 fun x hx=>(ML.has rfl (h.cu h3)).all hx
 rw [show (n.d6==3)=false by simpa using h3];cases hb:n.i7
 ·exact .of rfl rfl rfl rfl rfl h hn
 ·exact M1 fun x hx=>(ML.has rfl (h.wt hb)).all hx
theorem Act.fall(h:ND L n):Act L n (a0J n) [] []:=⟨rfl,rfl,⟨[],by simp [a0J,C0]⟩,.inr rfl,⟨h.kn,h.av,by simp [a0J,C0],fun q=>absurd (show (0:Int)=3 from q) (by decide),fun q=>(by cases q),by simp [a0J,C0]⟩,by simp,.inl rfl⟩
theorem ND.mono{L':m4->Prop}(h:ND L n)(hi:∀e,L e->L' e):ND L' n:=⟨fun e q=>hi e (h.kn e q),fun v q b=>hi _ (h.av v q b),fun v q b=>hi _ (h.bv v q b),fun q=>hi _ (h.cu q),fun q=>hi _ (h.wt q),fun e q=>hi e (h.qu e q)⟩
theorem ML.mono{L':m4->Prop}(h:ML L m)(hi:∀e,L e->L' e):ML L' m:=⟨fun q=>hi _ (h.en q),fun v q b=>hi _ (h.vs v q b)⟩
end
def a0w(w:m6)(e:m4):Prop:=e.i8=true\/∃a∈w.d7,a.a5=e.a5/\∃j,j<=(u9 w e.a5.d8).a0.length/\(∀x∈(u9 w e.a5.d8).a0.take j,H1 e.a5 x=false)/\e.b8=D4 (z4 ((u9 w e.a5.d8).a0.take j)).1.i4 a.i5
def a7q(l:List m4)(t:m9):Prop := ∃k,l.findIdx? (H1 t.a5)=some k/\t.Code=T2 l k/\t.f0=bif T2 l k==0 then a1i l t.a5 else 0
structure TL(w:m6):Prop where
 nd:∀i,D3 i->ND (a0w w) (u9 w i)
 ml:∀m∈w.b9,ML (a0w w) m
 aq:∀a∈w.d7,D3 a.a5.d8/\1<=a.a5.Seq/\a.a5.Seq<=(u9 w a.a5.d8).Seq
 au:(w.d7.map (·.a5)).Nodup
 tn:∀t∈w.Told,t.Node=t.a5.d8/\D3 t.Node/\(∃a∈w.d7,a.a5=t.a5)/\((u9 w t.Node).i7=true->t.a5.Seq<(u9 w t.Node).Seq)/\a7q (u9 w t.Node).a0 t
 tu:(w.Told.map (·.a5)).Nodup
theorem c48{l t:List m4}{q:q8}{k:Nat}(h:l.findIdx? (H1 q)=some k):(l++t).findIdx? (H1 q)=some k:=by
 rw [List.findIdx?_append,h];rfl
theorem c99{l t:List m4}{k:Nat}(h:G5 (l++t)=true)(hk:k<l.length):T2 (l++t) k=T2 l k:=by
 have hl:G5 l=true:=by
  unfold G5 at h ⊢;simp only [e9T,List.all_append,e9N,decide_eq_true_eq] at h ⊢;exact ⟨by omega,h.2.1⟩
 rw [c2B h (by rw [e9T];omega),c2B hl hk,f0h (by omega),List.getElem_append_left hk]
theorem e24{l t:List m4}{q:q8}{k:Nat}(h:l.findIdx? (H1 q)=some k):a1i (l++t) q=a1i l q:=by
 obtain ⟨hk,_⟩:=b1W h;unfold a1i;rw [c48 h,h];simp only [e94 hk]
theorem a7q.app{l t:List m4}{x:m9}(h:a7q l x)(hl:G5 (l++t)=true):a7q (l++t) x:=by
 obtain ⟨k,h1,h2,h3⟩:=h;obtain ⟨hk,_⟩:=b1W h1;exact ⟨k,c48 h1,by rw [c99 hl hk];exact h2,by rw [c99 hl hk,e24 h1];exact h3⟩
theorem b5H{w:m6}(h:WI w){i:Int}(hi:D3 i):NI (u9 w i)/\(u9 w i).Id=i:=by
 rw [a2G hi];unfold D3 at hi;obtain ⟨k,rfl⟩:∃k:Nat,i=(k:Int):=⟨i.toNat,by omega⟩
 obtain ⟨n,_,h2,h3,h4,_⟩:=a3N h (i:=k) (by omega);rw [h2];exact ⟨h4,h3⟩
theorem c3F{w w':m6}(hl:w.a9.length=3){i:Nat}(hi:i<3)(n:j6)(hw:w'.a9=w.a9.set i n)(j:Int):u9 w' j=if j=(i:Int) then n else u9 w j:=by
 unfold u9 H4;rw [hw];by_cases hj:0<=j/\j<=2
 ·rw [if_pos hj,if_pos hj];by_cases q:j=(i:Int)
  ·subst q;rw [if_pos rfl,e92,e9X,f0F (by omega)];rfl
  ·rw [if_neg q,e9X,e90 (by omega),<-e9X]
 ·rw [if_neg hj,if_neg hj,if_neg (by omega)]
theorem a0w.mono{w w':m6}(hk:∀j,∃t,(u9 w' j).a0=(u9 w j).a0++t)(ha:∀a∈w.d7,a∈w'.d7){e:m4}(h:a0w w e):a0w w' e:=by
 rcases h with h|⟨a,h1,h2,j,h3,h4,h5⟩
 ·exact .inl h
 ·obtain ⟨t,ht⟩:=hk e.a5.d8;refine .inr ⟨a,ha a h1,h2,j,by rw [ht,e9T];omega,?_,?_⟩
  ·rw [ht,f0h h3];exact h4
  ·rw [ht,f0h h3];exact h5
theorem TL.step{w w':m6}(h:TL w)(hl:w.a9.length=3){i:Nat}(hi:i<3)(hni:NI (u9 w (i:Int)))(hid:(u9 w (i:Int)).Id=(i:Int)){n':j6}{l:List j8}{ts:List m9}(hn':NI n')(ha:Act (a0w w) (u9 w (i:Int)) n' l ts)(hn:w'.a9=w.a9.set i n')(hm:∀m∈w'.b9,m∈w.b9\/m∈l)(hk:w'.d7=w.d7)(ht:w'.Told=w.Told\/w'.Told=w.Told++ts):TL w':=by
 have hJ:=c3F hl hi n' hn;have hD:D3 (i:Int):=by unfold D3;omega
 have hJi:u9 w' (i:Int)=n':=by rw [hJ,if_pos rfl]
 have hkn:∀j,∃t,(u9 w' j).a0=(u9 w j).a0++t:=fun j=>by
  rw [hJ];split
  ·rename_i q;subst q;exact ha.kn
  ·exact ⟨[],by simp⟩
 have hmo:∀e,a0w w e->a0w w' e:=fun e=>a0w.mono hkn (by rw [hk];exact fun _ q=>q)
 have hsq:∀j,(u9 w' j).Seq=(u9 w j).Seq:=fun j=>by
  rw [hJ];split
  ·rename_i q;subst q;exact ha.sq
  ·rfl
 have hls:∀j,D3 j->NI (u9 w j)->∀t,(u9 w' j).a0=(u9 w j).a0++t->G5 ((u9 w j).a0++t)=true\/(u9 w' j).a0=(u9 w j).a0:=fun j hj hjn t ht=>by
  by_cases q:j=(i:Int)
  ·subst q;rw [hJi] at ht;left;rw [<-ht];exact hn'.list
  ·right;rw [hJ,if_neg q]
 have old:∀t∈w.Told,t.Node=t.a5.d8/\D3 t.Node/\(∃a∈w'.d7,a.a5=t.a5)/\((u9 w' t.Node).i7=true->t.a5.Seq<(u9 w' t.Node).Seq)/\a7q (u9 w' t.Node).a0 t:=by
  intro t q;obtain ⟨x1,x2,x3,x4,x5⟩:=h.tn t q;refine ⟨x1,x2,by rw [hk];exact x3,fun hb => ?_,?_⟩
  ·rw [hsq];refine x4 ?_;rw [hJ] at hb;split at hb
   ·rename_i q;rw [q];rcases ha.bw with ⟨b,_⟩|b
    ·rw [<-b];exact hb
    ·rw [b] at hb;cases hb
   ·exact hb
  ·obtain ⟨t',ht'⟩:=hkn t.Node;rw [ht'];by_cases q:t.Node=(i:Int)
   ·refine x5.app ?_;rw [<-ht',q,hJi];exact hn'.list
   ·have:t'=[]:=by
     rw [hJ,if_neg q] at ht';have:=congrArg List.length ht';rw [e9T] at this;exact e9V (by omega)
    rw [this,f0m];exact x5
 have new:∀t∈ts,(t.Node=t.a5.d8/\D3 t.Node/\(∃a∈w'.d7,a.a5=t.a5)/\((u9 w' t.Node).i7=true->t.a5.Seq<(u9 w' t.Node).Seq)/\a7q (u9 w' t.Node).a0 t)/\ts=[t]/\(u9 w (i:Int)).i7=true/\t.a5=⟨(i:Int),(u9 w (i:Int)).Seq⟩:=by
  intro t q;rcases ha.to with e|⟨b1,b2,k,b3,b4⟩
  ·rw [e] at q;cases q
  ·rw [b4] at q;have q:=e9Q.1 q;have hw:(u9 w (i:Int)).b7.a5=⟨(i:Int),(u9 w (i:Int)).Seq⟩/\(u9 w (i:Int)).b7.i8=false:=by
    rcases hni.wt with y|y
    ·exact ⟨by rw [y.2.2.2.2,hid],y.2.2.2.1⟩
    ·rw [b1] at y;cases y.1
   have hlg:=(h.nd (i:Int) hD).wt b1;rcases hlg with y|⟨a,a1,a2,_⟩
   ·rw [hw.2] at y;cases y
   ·subst q;refine ⟨⟨?_,by show D3 _;rw [hid];exact hD,⟨a,by rw [hk];exact a1,a2⟩,?_,?_⟩,b4,b1,hw.1⟩
    ·show (u9 w (i:Int)).Id=(u9 w (i:Int)).b7.a5.d8
     rw [hw.1,hid]
    ·show (u9 w' (u9 w (i:Int)).Id).i7=true->_
     rw [hid,hJi,b2];intro y;cases y
    ·show a7q (u9 w' (u9 w (i:Int)).Id).a0 _
     rw [hid,hJi];exact ⟨k,b3,rfl,rfl⟩
 refine ⟨fun j hj => ?_,fun m q => ?_,fun a q => ?_,by rw [hk];exact h.au,fun t q => ?_,?_⟩
 ·rw [hJ];split
  ·exact ha.nd.mono hmo
  ·exact (h.nd j hj).mono hmo
 ·exact (hm m q).elim (fun q=>(h.ml m q).mono hmo) fun q=>(ha.ml m q).mono hmo
 ·rw [hk] at q;obtain ⟨x1,x2,x3⟩:=h.aq a q;exact ⟨x1,x2,by rw [hsq];exact x3⟩
 ·rcases ht with e|e
  ·rw [e] at q;exact old t q
  ·rw [e] at q;exact (List.mem_append.1 q).elim (old t) fun q=>(new t q).1
 ·rcases ht with e|e
  ·rw [e];exact h.tu
  ·rw [e,f0V];refine e9S.2 ⟨h.tu,?_,?_⟩
   ·cases hts:ts with
    | nil=>simp
    | cons t r =>
     have:=(new t (by rw [hts];simp)).2.1;rw [hts] at this;injection this with _ hr;rw [hr];simp
   ·intro a ha' b hb' hab;obtain ⟨x,hx,rfl⟩:=List.mem_map.1 ha';obtain ⟨y,hy,rfl⟩:=List.mem_map.1 hb';obtain ⟨_,_,n3,n4⟩:=new y hy;obtain ⟨o1,o2,o3,o4,o5⟩:=h.tn x hx;rw [n4] at hab;have:x.Node=(i:Int):=by rw [o1,hab]
    have:=o4 (by rw [this];exact n3);rw [‹x.Node=(i:Int)›,hab] at this;simp only at this;omega
theorem TL.asked{w w':m6}(h:TL w)(hw:WI w){i:Nat}(hi:i<3){p:List o9}(hc:J5 (u9 w (i:Int)) p=true)(hn:w'.a9=w.a9.set i (N9 (u9 w (i:Int)) p))(hm:w'.b9=w.b9)(hk:w'.d7=w.d7++[⟨⟨(i:Int),(u9 w (i:Int)).Seq+1⟩,p⟩])(ht:w'.Told=w.Told):TL w':=by
 have hJ:=c3F hw.nl hi _ hn;have hD:D3 (i:Int):=by unfold D3;omega
 obtain ⟨hni,hid⟩:=b5H hw hD;have hJi:u9 w' (i:Int)=N9 (u9 w (i:Int)) p:=by rw [hJ,if_pos rfl]
 have hkn:∀j,(u9 w' j).a0=(u9 w j).a0:=fun j=>by
  rw [hJ];split
  ·rename_i q;subst q;rfl
  ·rfl
 have hsq:∀j,(u9 w j).Seq<=(u9 w' j).Seq:=fun j=>by
  rw [hJ];split
  ·rename_i q;subst q;show _<=(u9 w (i:Int)).Seq+1;omega
  ·exact f0b _
 have hmo:∀e,a0w w e->a0w w' e:=fun e=>a0w.mono (fun j=>⟨[],by rw [hkn,f0m]⟩) (by rw [hk];exact fun a q=>f07 _ q)
 have hnew:∀e,a0w w e->H1 ⟨(i:Int),(u9 w (i:Int)).Seq+1⟩ e=false:=fun e he=>by
  cases hq:H1 ⟨(i:Int),(u9 w (i:Int)).Seq+1⟩ e
  ·rfl
  ·unfold H1 at hq;simp only [e9N,f0G] at hq;have hr:e.a5=⟨(i:Int),(u9 w (i:Int)).Seq+1⟩:=(b6P (b:=⟨(i:Int),(u9 w (i:Int)).Seq+1⟩)).1 hq.2;rcases he with he|⟨a,a1,a2,_⟩
   ·rw [hq.1] at he;cases he
   ·have:=(h.aq a a1).2.2;rw [a2,hr] at this;simp only at this;omega
 have hnd:=h.nd (i:Int) hD;refine ⟨fun j hj => ?_,fun m q=>(h.ml m (hm▸q)).mono hmo,fun a q => ?_,?_,fun t q => ?_,by rw [ht];exact h.tu⟩
 ·rw [hJ];split
  ·refine ⟨fun e q=>hmo e (hnd.kn e q),fun v q b=>hmo _ (hnd.av v q b),fun v q b=>hmo _ (hnd.bv v q b),fun q=>hmo _ (hnd.cu q),fun _ => ?_,fun e q=>hmo e (hnd.qu e q)⟩;refine .inr ⟨⟨⟨(i:Int),(u9 w (i:Int)).Seq+1⟩,p⟩,by rw [hk];simp,?_,(u9 w (i:Int)).a0.length,?_,?_,?_⟩
   ·show _=(⟨(u9 w (i:Int)).Id,(u9 w (i:Int)).Seq+1⟩:q8)
    rw [hid]
   ·show _<=(u9 w' (u9 w (i:Int)).Id).a0.length
    rw [hid,hkn];exact f0d _
   ·show ∀x∈(u9 w' (u9 w (i:Int)).Id).a0.take _,H1 (⟨(u9 w (i:Int)).Id,(u9 w (i:Int)).Seq+1⟩:q8) x=false
    rw [hid,hkn,f0f];exact fun x hx=>hnew x (hnd.kn x hx)
   ·show _=D4 (z4 ((u9 w' (u9 w (i:Int)).Id).a0.take _)).1.i4 p
    rw [hid,hkn,f0f];rfl
  ·exact (h.nd j hj).mono hmo
 ·rw [hk] at q;rcases List.mem_append.1 q with q|q
  ·obtain ⟨x1,x2,x3⟩:=h.aq a q;exact ⟨x1,x2,f0q x3 (hsq _)⟩
  ·rw [e9Q.1 q];refine ⟨hD,by have:=hni.sq;show 1<=(u9 w (i:Int)).Seq+1;omega,?_⟩;show _<=(u9 w' (i:Int)).Seq
   rw [hJi];exact f0b _
 ·rw [hk,f0V];refine e9S.2 ⟨h.au,by simp,?_⟩;intro a ha b hb hab;obtain ⟨x,hx,rfl⟩:=List.mem_map.1 ha;rw [List.map_singleton,e9Q] at hb;have:=(h.aq x hx).2.2;rw [hab,hb] at this;simp only at this;omega
 ·rw [ht] at q;obtain ⟨x1,x2,⟨a,a1,a2⟩,x4,x5⟩:=h.tn t q;refine ⟨x1,x2,⟨a,by rw [hk];exact f07 _ a1,a2⟩,fun hb => ?_,by rw [hkn];exact x5⟩;rw [hJ] at hb ⊢;split
  ·rename_i q;have:=(h.aq a a1).2.2;rw [a2,<-x1,q] at this;show _<(u9 w (i:Int)).Seq+1
   omega
  ·rename_i q;rw [if_neg q] at hb;exact x4 hb
theorem e6B{w:m6}(h:WI w)(ht:TL w){e:p7}(he:K6 e):TL (C4 w e):=by
 have h0:a0w w eN:=.inl rfl;unfold C4;cases hk:e.a8==2||(e.a8==3||e.a8==4)
 ·simp only [cond_false];cases hA:o7 e.A 0 2
  ·exact ht
  simp only [e9O,cond_false];rw [I4] at hA;obtain ⟨i,hi⟩:∃i:Nat,e.A=(i:Int):=⟨e.A.toNat,by omega⟩
  have hi3:i<3:=by omega
  have hD:D3 (i:Int):=by unfold D3;omega
  rw [hi];have hN:u9 w (i:Int)=H4 w (i:Int):=a2G hD;obtain ⟨hni,hid⟩:=b5H h hD;have hnd:=ht.nd (i:Int) hD;rw [<-hN];cases e.a8==1
  ·cases e.a8==5
   ·cases e.a8==6
    ·cases e.a8==7
     ·exact ht
     ·exact ht.step h.nl hi3 hni hid hni.fall (.fall hnd) rfl (fun m q=>.inl q) rfl (.inl rfl)
    ·exact ht.step h.nl hi3 hni hid (b0j hni).ni (.retry hnd h0) rfl (fun m q=>a1N (w:=M7 w _ _) q) rfl (.inl rfl)
   ·exact ht.step h.nl hi3 hni hid (b0n hni).ni (.rise hnd) rfl (fun m q=>a1N (w:=M7 w _ _) q) rfl (.inl rfl)
  ·simp only [cond_true];unfold a3c;cases hal:decide (60<=w.d7.length)
   ·rw [<-hN];simp only [cond_false];rw [b9O];cases hc:J5 (u9 w (i:Int)) e.i5
    ·simp only [cond_false];rw [a2f,hc];exact ht.step h.nl hi3 hni hid hni (.same hnd) rfl (fun m q=>a1N (w:=M7 w _ _) q) rfl (.inl rfl)
    ·simp only [cond_true];have hf:t8 e.i5:=z7.fits he (by decide);have hwq:(J4 (u9 w (i:Int)) e.i5).1.b7.a5=⟨(i:Int),(u9 w (i:Int)).Seq+1⟩:=by
      rw [b7p hc];show (⟨(u9 w (i:Int)).Id,_⟩:q8)=_;rw [hid]
     rw [hwq];have h1:TL ⟨w.a9.set i (N9 (u9 w (i:Int)) e.i5),w.b9,w.d7++[⟨⟨(i:Int),(u9 w (i:Int)).Seq+1⟩,e.i5⟩],w.Told⟩:=ht.asked h hi3 hc rfl rfl rfl rfl;have hJ:=c3F (w':=⟨w.a9.set i (N9 (u9 w (i:Int)) e.i5),w.b9,w.d7++[⟨⟨(i:Int),(u9 w (i:Int)).Seq+1⟩,e.i5⟩],w.Told⟩) h.nl hi3 _ rfl (i:Int);rw [if_pos rfl] at hJ;have hnd1:=h1.nd (i:Int) hD;rw [hJ] at hnd1;have hni1:=hni.asked hf hc;have hcan:=hc;refine h1.step (i:=i) (n':=(J4 (u9 w (i:Int)) e.i5).1) (l:=(J4 (u9 w (i:Int)) e.i5).2) (ts:=[]) (by show (w.a9.set i _).length=3;rw [f0O];exact h.nl) hi3 (by rw [hJ];exact hni1) (by rw [hJ];exact hid) (a80 hni hf).ni ?_ ?_ (fun m q=>a1N (w:=M7 ⟨w.a9,w.b9,w.d7++[_],w.Told⟩ _ _) q) rfl (.inl rfl)
     ·rw [hJ];rw [a2f,hc];have h0':a0w ⟨w.a9.set i (N9 (u9 w (i:Int)) e.i5),w.b9,w.d7++[⟨⟨(i:Int),(u9 w (i:Int)).Seq+1⟩,e.i5⟩],w.Told⟩ eN:=.inl rfl;simp only [cond_true];cases (u9 w (i:Int)).d6==2
      ·refine .of rfl rfl rfl rfl rfl hnd1 fun x hx => ?_
       simp only [cond_false] at hx;cases hp0:(u9 w (i:Int)).d6==0
       ·rw [hp0] at hx;cases hx
       ·rw [hp0] at hx;exact (ML.has rfl (hnd1.wt rfl)).all hx
      ·exact .propose hnd1 h0'
     ·show w.a9.set _ _=(w.a9.set i _).set i _
      rw [List.set_set];rfl
   ·exact ht
 ·simp only [cond_true];unfold a0F;cases hA:decide (0<=e.A)
  ·exact ht
  simp only [cond_true];cases hm:w.b9[e.A.toNat]? with
  | none=>exact ht
  | some m =>
   have hmem:=e9W hm;have hmi:=h.ms m hmem;have hself:∀{w':m6},w'.a9=w.a9->w'.d7=w.d7->w'.Told=w.Told->(∀x∈w'.b9,x∈w.b9)->TL w':=fun {w'} e1 e2 e3 e4=>by
    obtain ⟨hni,hid⟩:=b5H h (i:=0) (by unfold D3;omega);refine ht.step (i:=0) h.nl (by omega) hni hid hni (.same (ht.nd 0 (by unfold D3;omega))) ?_ (fun x q=>.inl (e4 x q)) e2 (.inl e3);rw [e1];have hl:=h.nl;have:u9 w ((0:Nat):Int)=w.a9[0]:=by
     rw [a2G (by unfold D3;omega)];show w.a9.getD 0 _=_
     rw [e9X,e9K (by omega)];rfl
    rw [show u9 w 0=w.a9[0] from this,f1n]
   simp only;cases e.a8==4
   ·cases e.a8==3
    ·simp only [cond_false];have hto:=hmi.to;obtain ⟨t,htt⟩:∃t:Nat,m.To=(t:Int):=⟨m.To.toNat,by omega⟩
     have hD:D3 (t:Int):=by unfold D3;omega
     have hN:u9 w (t:Int)=H4 w (t:Int):=a2G hD;obtain ⟨hni,hid⟩:=b5H h hD;rw [htt,<-hN];have hact:=Act.take (ht.nd (t:Int) hD) h0 (ht.ml m hmem) hmi;refine ht.step h.nl (i:=t) (by omega) hni hid (b0F hni hmi).ni hact rfl (fun x q=>(a1N (w:=M7 (a2E w e.A) _ _) q).imp (fun q=>b7v q) id) rfl ?_;show (w.Told++List.take (60-w.Told.length) _=w.Told\/_)
     have hl1:=(b7z hni m).2;rcases Nat.eq_zero_or_pos (60-w.Told.length) with q|q
     ·left;rw [q,f0p,f0m]
     ·right
      show w.Told++List.take (60-w.Told.length) _=_
      rw [f0g (by omega)]
    ·exact hself rfl rfl rfl fun x q=>b7v q
   ·exact hself rfl rfl rfl fun x q=>(a1N q).elim id fun q=>by rw [e9Q.1 q];exact hmem
theorem d9R:TL N7:=by
 have hn:∀j,D3 j->u9 N7 j=C0 j:=fun j hj=>by
  rw [a2G hj];unfold D3 at hj;obtain rfl|rfl|rfl:j=0\/j=1\/j=2:=by omega
  all_goals rfl
 refine ⟨fun i hi => ?_,fun m hm=>(by cases hm),fun a ha=>(by cases ha),by simp [N7],fun t ht=>(by cases ht),by simp [N7]⟩;rw [hn i hi];exact ⟨by simp [C0],by simp [C0],by simp [C0],fun q=>absurd (show (0:Int)=3 from q) (by decide),fun q=>(by cases q),by simp [C0]⟩
theorem d3B:∀{l:List p7} {w:m6},WI w->TL w->(∀e∈l,K6 e)->TL (a0X w l)
 | [],_,_,h,_=>h
 | e::l,w,hw,h,he=>d3B (l:=l) (w:=C4 w e) (b0S hw (he e (by simp))) (e6B hw h (he e (by simp))) fun x hx=>he x (by simp [hx])
section
variable {w:m6}
theorem d5u{α:Type}(z:α):∀{l:List α},l.length=3->l=[l.getD 0 z,l.getD 1 z,l.getD 2 z]
 | [a,b,c],_=>rfl
theorem c4U(h:WI w):w.a9=[u9 w 0,u9 w 1,u9 w 2]:=by
 have e0:u9 w 0=w.a9.getD 0 (C0 0):=a2G (j:=0) (by unfold D3;omega);have e1:u9 w 1=w.a9.getD 1 (C0 0):=a2G (j:=1) (by unfold D3;omega);have e2:u9 w 2=w.a9.getD 2 (C0 0):=a2G (j:=2) (by unfold D3;omega);rw [e0,e1,e2];exact d5u (C0 0) h.nl
theorem e3j(h:WI w){n:j6}(hn:n∈w.a9):∃i,D3 i/\n=u9 w i:=by
 rw [c4U h] at hn;simp only [e9R,List.not_mem_nil,or_false] at hn;rcases hn with q|q|q
 ·exact ⟨0,by unfold D3;omega,q⟩
 ·exact ⟨1,by unfold D3;omega,q⟩
 ·exact ⟨2,by unfold D3;omega,q⟩
theorem d9p(hp:PW w){i j:Int}(hi:D3 i)(hj:D3 j){s:Nat}{a b:m4}(ha:(u9 w i).a0[s]?=some a)(hb:(u9 w j).a0[s]?=some b):a=b:=by
 obtain ⟨V,P,M,h,_⟩:=hp;exact h.one (h.kn i s a hi ha) (h.kn j s b hj hb)
theorem d54(a b c:j6)(x:List j8)(y:List v5)(z:List m9):∃n∈[a,b,c],D6 ⟨[a,b,c],x,y,z⟩=n.a0/\∀m∈[a,b,c],m.a0.length<=n.a0.length:=by
 have e:D6 ⟨[a,b,c],x,y,z⟩=(bif decide ((b.a0.length:Int)>(a.a0.length:Int)) then (bif decide ((c.a0.length:Int)>(b.a0.length:Int)) then c else b) else (bif decide ((c.a0.length:Int)>(a.a0.length:Int)) then c else a)).a0:=by
  unfold D6;simp only [best,f0w,f01,f0B,f0I];have e0:decide ((a.a0.length:Int)>(a.a0.length:Int))=false:=by simp
  simp only [e0,cond_false,f0B];cases decide ((b.a0.length:Int)>(a.a0.length:Int))
  ·simp only [cond_false,f0B];cases decide ((c.a0.length:Int)>(a.a0.length:Int))<;>rfl
  ·simp only [cond_true,f0B,f0I];cases decide ((c.a0.length:Int)>(b.a0.length:Int))<;>rfl
 rw [e];cases h1:decide ((b.a0.length:Int)>(a.a0.length:Int))
 ·cases h2:decide ((c.a0.length:Int)>(a.a0.length:Int))
  ·exact ⟨a,by simp,rfl,by simp at h1 h2 ⊢;omega⟩
  ·exact ⟨c,by simp,rfl,by simp at h1 h2 ⊢;omega⟩
 ·cases h2:decide ((c.a0.length:Int)>(b.a0.length:Int))
  ·exact ⟨b,by simp,rfl,by simp at h1 h2 ⊢;omega⟩
  ·exact ⟨c,by simp,rfl,by simp at h1 h2 ⊢;omega⟩
theorem c8x(h:WI w):∃b,D3 b/\D6 w=(u9 w b).a0/\∀i,D3 i->(u9 w i).a0.length<=(D6 w).length:=by
 have hn:=c4U h;obtain ⟨n,n1,n2,n3⟩:=d54 (u9 w 0) (u9 w 1) (u9 w 2) w.b9 w.d7 w.Told;rw [<-hn] at n1 n2 n3;obtain ⟨b,hb,rfl⟩:=e3j h n1;refine ⟨b,hb,n2,fun i hi => ?_⟩;have n2':D6 w=(u9 w b).a0:=n2;rw [n2'];refine n3 _ ?_;rw [hn];unfold D3 at hi;obtain rfl|rfl|rfl:i=0\/i=1\/i=2:=by omega
 all_goals simp
theorem d4g(h:WI w)(hp:PW w){i:Int}(hi:D3 i):(u9 w i).a0=(D6 w).take (u9 w i).a0.length:=by
 obtain ⟨b,hb,h1,h2⟩:=c8x h;have hl:=h2 i hi;apply List.ext_getElem?;intro s;by_cases hs:s<(u9 w i).a0.length
 ·rw [f0Z,if_pos hs];obtain ⟨y,hy⟩:∃y,(D6 w)[s]?=some y:=⟨_,e9K (show s<(D6 w).length by omega)⟩
  rw [hy,e9K hs];rw [h1] at hy;exact congrArg some (d9p hp hi hb (e9K hs) hy)
 ·rw [f0c (by omega),f0c (by rw [e96];omega)]
theorem e3W(h:WI w)(hp:PW w){i:Int}(hi:D3 i):∃t,D6 w=(u9 w i).a0++t:=by
 refine ⟨(D6 w).drop (u9 w i).a0.length,?_⟩;conv=>rhs;lhs;rw [d4g h hp hi]
 rw [f0s]
theorem e1c(ht:TL w){a:v5}(ha:a∈w.d7):b0t w a.a5=(a.i5,true):=by
 unfold b0t b3X;have hex:∃b,w.d7.find? (fun x=>(([x.a5.d8,x.a5.Seq]:List Int)==[a.a5.d8,a.a5.Seq]))=some b:=by
  cases hf:w.d7.find? (fun x=>(([x.a5.d8,x.a5.Seq]:List Int)==[a.a5.d8,a.a5.Seq])) with
  | some b=>exact ⟨b,rfl⟩
  | none =>
   have:=List.find?_eq_none.1 hf a ha;simp at this
 obtain ⟨b,hb⟩:=hex;rw [hb];have hbm:=f1u hb;have hbr:=List.find?_some hb;have hbr:=b6P.1 hbr;obtain ⟨i,hi,rfl⟩:=f0x ha;obtain ⟨j,hj,rfl⟩:=f0x hbm;have hij:i=j:=by
  rcases Nat.lt_trichotomy i j with q|q|q
  ·exact absurd (by rw [List.getElem_map,List.getElem_map];exact hbr.symm) (f0o.1 ht.au i j (by rw [f0D];omega) (by rw [f0D];omega) q)
  ·exact q
  ·exact absurd (by rw [List.getElem_map,List.getElem_map];exact hbr) (f0o.1 ht.au j i (by rw [f0D];omega) (by rw [f0D];omega) q)
 subst hij;rfl
end
theorem c6x{l:List m4}(hl:l.length<=40)(he:l.all z3=true){k:Nat}(hk:k<=l.length):F6 (z4 (l.take k)).1.i4=true:=(a3w hl he k hk).1.boxes
section
variable {w:m6}
theorem e0Q(h:WI w)(hp:PW w)(ht:TL w){k:Nat}(hk:k<(D6 w).length)(hn:((D6 w)[k]).i8=false):∃a∈w.d7,a.a5=((D6 w)[k]).a5/\∃j,j<=k/\((D6 w)[k]).b8=D4 (z4 ((D6 w).take j)).1.i4 a.i5:=by
 obtain ⟨b,hb,h1,_⟩:=c8x h;have hm:(D6 w)[k]∈(u9 w b).a0:=h1▸e9M hk;rcases (ht.nd b hb).kn _ hm with q|⟨a,a1,a2,j,j1,j2,j3⟩
 ·rw [hn] at q;cases q
 ·have hw:D3 ((D6 w)[k]).a5.d8:=by rw [<-a2];exact (ht.aq a a1).1
  have htk:(u9 w ((D6 w)[k]).a5.d8).a0.take j=(D6 w).take j:=by
   obtain ⟨t,ht'⟩:=e3W h hp hw;conv=>rhs;rw [ht']
   rw [f0h j1]
  rw [htk] at j2 j3;refine ⟨a,a1,a2,j,?_,j3⟩;rcases Nat.lt_or_ge k j with q|q
  ·exfalso
   have:=j2 (D6 w)[k] (f0U.2 ⟨k,by omega,rfl⟩);unfold H1 at this;rw [hn] at this;simp at this
  ·exact q
end
def a3M(p:Nat->Bool):Nat->Bool
 | 0=>false
 | k+1=>a3M p k||p k
theorem c8g(p:Nat->Bool)(k:Nat):a3M p (k+1)=(a3M p k||p k):=rfl
theorem d0E{p:Nat->Bool}{j:Nat}(h:p j=true):∀{n},j<n->a3M p n=true
 | 0,q=>by omega
 | n+1,q=>by
  rw [c8g];by_cases e:j=n
  ·rw [<-e,h,Bool.or_true]
  ·rw [d0E h (show j<n by omega),f1c]
theorem d46{w:m6}(h:WI w){i:Nat}(hi:i<(D6 w).length){p:List o9}(hp:t8 p):p8 (fun s:Bool×Int=>a59 (D6 w) (i:Int) (p,true) s.1 s.2) (false,0)=some (.brk (a3M (fun k=>a0p (D4 (z4 ((D6 w).take k)).1.i4 p) (D6 w)[i].b8) (i+1))):=by
 obtain ⟨_,hlo,hok⟩:=c7h h.ok (a7a.2 h);obtain ⟨hl,he⟩:=a34 hok;have hf:=okEntries.f hlo;have hle:(D6 w).length<=40:=hl;have:=W6 (body:=fun s:Bool×Int=>a59 (D6 w) (i:Int) (p,true) s.1 s.2) (fun k=>(a3M (fun k=>a0p (D4 (z4 ((D6 w).take k)).1.i4 p) (D6 w)[i].b8) k,(k:Int))) (i+1) fun k hk=>by
  show a59 (D6 w) (i:Int) (p,true) (a3M _ k) (k:Int)=_
  have hn:m8 ((k:Int)+1)=((k+1:Nat):Int):=by rw [B9 (by omega) (by omega)];omega
  unfold a59;rw [decide_eq_true (show (k:Int)<=(i:Int) by omega),cond_true,hn];rw [c8g];cases a3M (fun k=>a0p (D4 (z4 ((D6 w).take k)).1.i4 p) (D6 w)[i].b8) k
  ·have hb:t8 (z4 ((D6 w).take k)).1.i4:=a4l (c6x hl he (show k<=(D6 w).length by omega));have hr:=c6o (c6x hl he (show k<=(D6 w).length by omega)) hp;rw [cond_false,t9 ⟨by omega,by omega⟩,f0N,e92,f1v,c8k (e2x hf _),e3s hok];simp only [cond_true,e9J,d21 hb hp,u0 hi,b4e hr.f,f0i]
  ·rfl
 refine (show p8 _ (a3M _ 0,((0:Nat):Int))=_ from this).trans (C6 ?_);show a59 (D6 w) (i:Int) (p,true) _ ((i+1:Nat):Int)=_
 unfold a59;rw [decide_eq_false (by omega)];rfl
theorem d8H{code:List Int}(h:z7 1 a5R code):b87 code=some true:=by
 unfold b87;cases decide ((code.length:Int)>1048576);case true=>rfl
 obtain ⟨l,a1,a2,a3⟩:=e8l h.2;obtain ⟨p1,p2,hw⟩:=e27 a2 a3;have hp:=c8W WI.open d31 a2;have ht:=d3B WI.open d9R a2;simp only [cond_false,a1,e6i,d1z,p1,p2,e9J,d36 hw.ok,e9O];generalize a0X N7 l=w at hw ht hp;obtain ⟨h0,hlo,hok⟩:=c7h hw.ok (a7a.2 hw);have hfl:t8 (D6 w):=hlo.fits (by decide);rw [e2p hw.ok h0,e9J];rw [P9 (D6 w) hfl (fun _=>true) false () (fun k hk => ?_) (by unfold b6J;rw [A4];rfl)]
 ·rw [List.all_eq_true.2 fun _ _=>rfl];rfl
 ·unfold b6J;rw [x8 _ k hk,u0 hk,cond_true,e9J];cases hn:((D6 w)[k]).i8
  ·obtain ⟨a,b1,b2,j,b3,b4⟩:=e0Q hw hp ht hk hn;have hpf:=e1c ht b1;have hft:t8 a.i5:=by have:=d3R hw.ok a.a5;rw [hpf] at this;exact this
   rw [b2] at hpf;have hany:a3M (fun q=>a0p (D4 (z4 ((D6 w).take q)).1.i4 a.i5) (D6 w)[k].b8) (k+1)=true:=d0E (j:=j) (by
    show a0p _ _=true
    rw [<-b4];exact (b30 _ _).2 rfl) (by omega)
   simp only [cond_false,d41 hw.ok,hpf,e9J,e9O,d46 hw hk hft,hany,l9.go,b8W,cond_true]
  ·rfl
end
end Go.Proofs.YtaffmjifackfgaaGreat
