/- Abstract values and states of the program, functions of the program and what their calls come to, and what follows from it: part 5 of the text that the law leans on; long names are written short. -/
import Derived.Test.YtiplopknlhknjaaGreatP4
set_option linter.unusedVariables false
set_option linter.unusedSimpArgs false
set_option linter.unnecessarySimpa false
namespace Go.Proofs.YtiplopknlhknjaaGreat
open Go
open Option renaming bind_some → e8C, map_some → e9w, getD_some → e9D, map_eq_some_iff → e9K
open List renaming getElem?_eq_getElem → e8D, replicate → e8E, getElem_mem → e8F, getElem?_eq_some_iff → e8I, mem_singleton → e8J, mem_cons → e8K, nodup_append → e8L, range → e8M, eq_nil_of_length_eq_zero → e8N, length_append → e8O, mem_of_getElem? → e8P, getD_eq_getElem?_getD → e8Q, append_assoc → e8R, drop_eq_nil_of_le → e8S, getElem?_append_right → e8T, getElem?_set_ne → e8U, drop_eq_getElem_cons → e8X, getElem?_append_left → e8Y, flatten_cons → e8Z, length_take → e83, map_cons → e84, take_length → e85, take_of_length_le → e86, take_succ_eq_append_getElem → e87, getElem?_eq_none → e88, append_nil → e9b, take_append_of_le_length → e9c, pairwise_iff_getElem → e9d, take_zero → e9e, mem_replicate → e9f, nil_append → e9g, mem_of_mem_drop → e9i, mem_of_mem_take → e9j, length_cons → e9l, mem_flatten → e9m, take_append_drop → e9n, getElem?_map → e9o, any_eq_false → e9p, length_map → e9r, getElem_of_mem → e9s, mem_range → e9u, getElem?_set_self → e9v, nodup_cons → e9x, length_singleton → e9z, findIdx?_eq_some_iff_getElem → e9C, drop_zero → e9F, pairwise_cons → e9G, map_append → e9H, getElem?_cons_succ → e9I, length_set → e9N, sublist_append_right → e9P, getElem?_of_mem → e9Q, pairwise_append → e9R, mem_take_iff_getElem → e9S, Perm → e9U, drop_drop → e9V, any_eq_true → e9W, take_succ_cons → e9X, replicate_succ → e9Y, getElem?_cons_zero → e9Z, getElem?_take → e90, foldl_cons → e91, length_nil → e92, drop_append_of_le_length → e93, size_toArray → e94, all_eq_false → e95, toArray → e96, map_map → e97, Sublist → e98, set_getElem_self → f0a, cons_append → f0c, mem_cons_of_mem → f0e, flatten_append → f0f, foldl_nil → f0g
open Bool renaming and_eq_true → e8G, not_true → e8H, true_and → e8V, not_false → e8W, false_or → e9a, not_eq_true' → e9t, false_eq_true → e9A, and_true → e9B, or_eq_false_iff → e9T, and_assoc → e99, true_or → f0b
open Nat renaming mul_le_mul_right → e80, eq_of_beq_eq_true → e89, le_refl → e9h, zero_add → e9k, succ_mul → e9q, lt_of_lt_of_le → e9E, le_mul_of_pos_right → e9J, zero_le → e9L, add_zero → e9M, le_succ_of_le → e9O
open Int renaming tmod → e81, toNat_natCast → e82, tdiv → f0d
open Option.some renaming inj → e9y
noncomputable section
theorem d9F{l:List m6}(hf:t6 l)(k:Nat):b3C l (k:Int)=some ((l.drop k).any fun v=>decide (v.a8>0)):=by
 have key:∀(m k:Nat),l.length-k=m->o9 (fun s:Int=>a7m l s) (k:Int)=some (bif (l.drop k).any (fun v=>decide (v.a8>0)) then .ret true else .brk ()):=by
  intro m;induction m with
  | zero =>
   intro k hk;rw [e8S (by omega)];refine C2 ?_;unfold a7m;rw [show decide ((k:Int)<(l.length:Int))=false by simp;omega];rfl
  | succ m ih =>
   intro k hk;have hlt:k<l.length:=by omega
   rw [e8X hlt,List.any_cons];cases hd:decide (l[k].a8>0)
   ·rw [C9 (body:=fun s:Int=>a7m l s) (t:=((k+1:Nat):Int)) (by
     unfold a7m;rw [w8 _ k hlt,u0 hlt,cond_true,e8C,hd,F3 hf hlt];rfl),ih (k+1) (by omega),e9a]
   ·refine X7 ?_;unfold a7m;rw [w8 _ k hlt,u0 hlt,cond_true,e8C,hd];rfl
 unfold b3C;rw [key _ k rfl];cases (l.drop k).any fun v=>decide (v.a8>0)<;>rfl
theorem c5R(n:j5)(hk:t6 n.a6):∀(q:List m4),z7 88 D7 q->o9 (fun s:List m4=>a87 n s) q=some (match Q7 n.a6 q with
  | (q',some e)=>.ret ({n with d8:=q'},e,true)
  | (q',none)=>.brk q')
 | [],h=>C2 rfl
 | e::q,h=>by
  have hb:=h.1;rw [e9l,e9q] at hb;have h':z7 88 D7 q:=⟨by omega,fun x hx=>h.2 x (f0e _ hx)⟩
  have ht:(([]:List m4)++((e::q).drop (0+(1:Int).toNat)).take ((e::q).length-(1:Int).toNat))=q:=by
   simp
  have hs:a87 n (e::q)=some (bif L5 n.a6 e.a0 then .nxt q else .ret ({n with d8:=q},e,true)):=by
   unfold a87;rw [show decide (((e::q).length:Int)>0)=true by simp,cond_true,show idx (e::q) 0=some e from rfl,e8C,t5 (by simp;omega),t5 (by simp;omega),ht,b5c (n:={n with d8:=q}) hk,e8C];cases L5 n.a6 e.a0<;>rfl
  unfold Q7;cases hd:L5 n.a6 e.a0
  ·rw [hd] at hs;exact X7 hs
  ·rw [hd] at hs;rw [C9 (body:=fun s:List m4=>a87 n s) hs];exact c5R n hk q h'
def b4b(x:j5×Option m4):j5×m4×Bool:=match x with
 | (n,some e)=>(n,e,true)
 | (n,none)=>(n,zE,false)
theorem d77{n:j5}(h:Q1 n):b4T n=some (b4b (a0H n)):=by
 obtain ⟨h1,h2,h3,h4,h5,h6,h7,h8,h9,h10,h11,h12,h13⟩:=h;have hk:t6 n.a6:=h3.fits (by decide);have j1:b7E n=some (b4b ({n with d8:=(Q7 n.a6 n.d8).1},(Q7 n.a6 n.d8).2)):=by
  unfold b7E;rw [c5R n hk _ h13];obtain ⟨q,o⟩:=Q7 n.a6 n.d8;cases o<;>rfl
 have j2:b7T n=some (b4b (a3N n)):=by
  unfold b7T a3N;rw [d9F (h8.fits (by decide)),e8C,b5c hk,a0m h12];generalize (({n with d8:=(Q7 n.a6 n.d8).1},(Q7 n.a6 n.d8).2):j5×Option m4)=X at j1 ⊢;cases (n.g9.drop n.a6.length).any fun v=>decide (v.a8>0)
  ·simp only [cond_false];cases n.i7
   ·exact j1
   ·cases L5 n.a6 n.b6.a0
    ·rfl
    ·exact j1
  ·rfl
 unfold b4T a0H;by_cases hl:n.a6.length<n.g9.length
 ·rw [w8 _ _ hl,u0 hl,e8D hl];simp only [cond_true,e8C];cases decide (n.g9[n.a6.length].a8>0)
  ·exact j2
  ·simp only [cond_true,a0m (h8.2 _ (e8F hl)).2,e8C,l8.go];rfl
 ·rw [show decide ((n.a6.length:Int)<(n.g9.length:Int))=false by simp;omega,e88 (by omega)];exact j2
theorem d2F(known:List m4):∀(q:List m4),(Q7 known q).1.length<=q.length/\(∀x∈(Q7 known q).1,x∈q)/\∀e,(Q7 known q).2=some e->e∈q/\L5 known e.a0=false/\(Q7 known q).1.length<q.length
 | []=>⟨e9h _,fun x hx=>hx,fun e he=>by cases he⟩
 | e::q=>by
  unfold Q7;cases hk:L5 known e.a0
  ·refine ⟨by simp,fun x hx=>by simpa using .inr hx,fun e' he => ?_⟩;injection he with he;subst he;exact ⟨by simp,hk,by simp⟩
  ·obtain ⟨a,b,c⟩:=d2F known q;refine ⟨by simp only [cond_true,e9l];omega,fun x hx=>f0e _ (b x hx),fun e' he => ?_⟩;obtain ⟨x,y,z⟩:=c e' he;exact ⟨f0e _ x,y,by simp only [cond_true,e9l];omega⟩
inductive a19 (n:j5):m4->Prop
 | best (v) (h:n.g9[n.a6.length]?=some v) (hb:v.a8>0):a19 n v.i0
 | gap (v) (h:v∈n.g9.drop n.a6.length) (hb:v.a8>0) (hn:∀v,n.g9[n.a6.length]?=some v->¬v.a8>0):a19 n eN
 | want (h:n.i7=true) (hk:L5 n.a6 n.b6.a0=false) (hn:∀v∈n.g9.drop n.a6.length,¬v.a8>0):a19 n n.b6
 | queue (e) (h:e∈n.d8) (hk:L5 n.a6 e.a0=false) (hn:∀v∈n.g9.drop n.a6.length,¬v.a8>0):a19 n e
theorem b0W(n:j5):∃q:List m4,(a0H n).1={n with d8:=q}/\q.length<=n.d8.length/\(∀x∈q,x∈n.d8)/\∀e,(a0H n).2=some e->a19 n e:=by
 have rest:(∀v,n.g9[n.a6.length]?=some v->¬v.a8>0)->∃q:List m4,(a3N n).1={n with d8:=q}/\q.length<=n.d8.length/\(∀x∈q,x∈n.d8)/\∀e,(a3N n).2=some e->a19 n e:=by
  intro hn;unfold a3N;cases ha:(n.g9.drop n.a6.length).any fun v=>decide (v.a8>0)
  ·have hnv:∀v∈n.g9.drop n.a6.length,¬v.a8>0:=fun v hv=>by simpa using e9p.1 ha v hv
   cases hb:n.i7 && !L5 n.a6 n.b6.a0
   ·obtain ⟨a,b,c⟩:=d2F n.a6 n.d8;exact ⟨_,rfl,a,b,fun e he=>.queue e (c e he).1 (c e he).2.1 hnv⟩
   ·simp only [e8G,e9t] at hb;refine ⟨n.d8,rfl,e9h _,fun _ h=>h,fun e he => ?_⟩;injection he with he;subst he;exact .want hb.1 hb.2 hnv
  ·obtain ⟨v,hv,hb⟩:=e9W.1 ha;refine ⟨n.d8,rfl,e9h _,fun _ h=>h,fun e he => ?_⟩;injection he with he;subst he;exact .gap v hv (by simpa using hb) hn
 unfold a0H;cases hg:n.g9[n.a6.length]? with
 | none=>exact rest (by rw [hg];simp)
 | some v =>
  simp only;cases hb:decide (v.a8>0)
  ·exact rest (by rw [hg];intro w hw;injection hw with hw;subst hw;simpa using hb)
  ·refine ⟨n.d8,rfl,e9h _,fun _ h=>h,fun e he => ?_⟩;injection he with he;subst he;exact .best v hg (by simpa using hb)
theorem a19.ok{n:j5}(h:Q1 n){e:m4}(hn:a19 n e):D7 e:=by
 cases hn with
 | best v hv hb=>exact (h.2.2.2.2.2.2.2.1.2 v (e8P hv)).2
 | gap=>exact d2w
 | want=>exact h.2.2.2.2.2.2.2.2.2.2.2.1
 | queue e hq=>exact h.2.2.2.2.2.2.2.2.2.2.2.2.2 e hq
theorem a6q{k b s:Int}{e:m4}{vs:List m6}(hk:G8 k)(hb:G8 b)(hs:G8 s)(he:D7 e)(hv:z7 96 P7 vs):X9 ⟨k,0,0,b,s,e,vs⟩:=⟨hk,Y6,Y6,hb,hs,he,hv⟩
theorem c1C{id:Int}(h:0<=id/\id<=2):∃y,idx (e8E (3:Int).toNat false) id=some y:=by
 obtain rfl|rfl|rfl:id=0\/id=1\/id=2:=by omega
 all_goals exact ⟨false,rfl⟩
theorem b05{n:j5}(h:Q1 n)(hid:0<=n.Id/\n.Id<=2):a4P n=some (M4 n):=by
 unfold a4P M4;rw [show decide ((n.a6.length:Int)>=40)=decide (40<=n.a6.length) by simp;omega];cases n.d9 != 2
 ·simp only [cond_false,e9a];cases hlt:decide (40<=n.a6.length)
  ·simp only [cond_false,d77 h,e8C];obtain ⟨q,hq,hql,hqm,hqe⟩:=b0W n;cases hx:a0H n with
   | mk x o =>
   rw [hx] at hq hqe;have hq:x={n with d8:=q}:=hq;cases o with
   | none=>rfl
   | some e =>
    have he:=(hqe e rfl).ok h;have hlen:n.a6.length<40:=by simpa using hlt
    subst hq;simp only [b4b,e8H,cond_false,d06 he,c30 he,a6M];cases M5 n.Acc n.a8 (n.a6.length:Int) e with
    | none=>rfl
    | some a =>
     obtain ⟨y,hy⟩:=c1C hid;simp only [a4u,e8C,e8H,cond_false,a0m he,hy];rw [t5 (by omega),a5P hid (a6q (z4 (by omega)) h.2.2.2.2.2.1 (z4 (by omega)) he Q9)];rfl
  ·rfl
 ·rfl
theorem e6P{n:j5}(h:Q1 n):Q1 (a4L n):=by
 obtain ⟨h1,h2,h3,h4,h5,h6,h7,h8,h9,h10,h11,h12,h13⟩:=h;exact ⟨h1,h2,h3,h4,h5,h6,h7,h8,h9,h10,Q9,a0A,h13⟩
theorem d9q{n:j5}(h:Q1 n){e:m4}(he:D7 e)(hl:n.a6.length<=40):Q1 (H4 n e):=by
 obtain ⟨h1,h2,h3,h4,h5,h6,h7,h8,h9,h10,h11,h12,h13⟩:=h;have hk:z7 88 D7 (n.a6++[e]):=Z2 (by simp;omega) (by
  intro x hx;rcases List.mem_append.1 hx with q|q
  ·exact h3.2 x q
  ·rw [e8J.1 q];exact he)
 unfold H4;cases n.d9==3
 ·exact ⟨h1,h2,hk,h4,h5,h6,h7,h8,h9,h10,h11,h12,h13⟩
 ·exact ⟨h1,h2,hk,h4,z4 (n:=2) (by omega),h6,h7,h8,a0A,Q9,h11,h12,h13⟩
theorem b0Z(n:j5):(T1 n=(n,[]))\/∃k,n.i7=true/\n.a6.findIdx? (G4 n.b6.a0)=some k/\T1 n=(a4L n,[⟨n.Id,n.b6.a0,Q8 n.a6 k,bif Q8 n.a6 k==0 then a0M n.a6 n.b6.a0 else 0⟩]):=by
 unfold T1;cases n.i7
 ·exact .inl rfl
 ·cases h:n.a6.findIdx? (G4 n.b6.a0) with
  | none=>exact .inl rfl
  | some k=>exact .inr ⟨k,rfl,rfl,rfl⟩
theorem d4q{n:j5}(h:Q1 n):Q1 (T1 n).1:=by
 rcases b0Z n with q|⟨k,_,_,q⟩<;>rw [q]
 ·exact h
 ·exact e6P h
theorem c6m(n:j5):(T1 n).1.Id=n.Id:=by
 rcases b0Z n with q|⟨k,_,_,q⟩<;>rw [q];rfl
theorem b9n(n:j5)(e:m4):(H4 n e).Id=n.Id:=by
 unfold H4;cases n.d9==3<;>rfl
theorem c9q(n:j5)(e:m4):(H4 n e).a6=n.a6++[e]:=by
 unfold H4;cases n.d9==3<;>rfl
theorem c8J{n:j5}(h:Q1 n)(hid:0<=n.Id/\n.Id<=2)(hk:I3 n.a6=true)(hl:n.a6.length<40){e:m4}(he:D7 e)(hok:x9 e=true):b0q n e=some (X8 n e):=by
 have hkn:=d9q h he (by omega);have hko:I3 (H4 n e).a6=true:=by
  rw [c9q];obtain ⟨a,b⟩:=a6k hk;unfold I3;simp only [e8O,e9z,List.all_append,List.all_cons,List.all_nil,b,hok,e9B,Bool.and_self,decide_eq_true_eq];omega
 have hj:∀(p:Int) (c:m4) (vs:List Bool),(⟨n.Id,n.Acc,n.a6++[e],n.Seq,p,n.a8,n.d7,n.g9,c,vs,n.i7,n.i5,n.b6,n.d8⟩:j5)=H4 n e->b3p n e vs c.a0.d6 c.a0.Seq c.b8.b5 c.b8.b7 c.b8.f0 c.b8.Code p c.i8=some (X8 n e):=by
  intro p c vs hq;unfold b3p;rw [show (j5.mk n.Id n.Acc (n.a6++[e]) n.Seq p n.a8 n.d7 n.g9 (m4.mk c.i8 (p8.mk c.a0.d6 c.a0.Seq) (m9.mk c.b8.b5 c.b8.b7 c.b8.f0 c.b8.Code)) vs n.i7 n.i5 n.b6 n.d8)=H4 n e from hq,d5R hkn.2.2.1 hko,e8C,b05 (d4q hkn) (by rw [c6m,b9n];exact hid),e8C];rfl
 unfold b0q;rw [a0m he,e8C,t5 (by omega)];cases hp:n.d9==3
 ·exact hj n.d9 n.c8 n.a5 (by unfold H4;rw [hp];rfl)
 ·exact hj 2 zE [] (by unfold H4;rw [hp];rfl)
theorem d4K{r:m9}(h:R6 r=true):r.b5.length<=4:=by
 have h0:a7e r.b5=true:=by
  rw [b2j] at h;simp only [e8G] at h;exact h.2.2.2.2.1
 obtain ⟨h1,h2⟩:=c47.1 h0;let ps:List n8:=r.b5.map fun x=>⟨x.i6,0⟩
 have hp:∀p∈ps,a2b p:=by
  intro p hp;obtain ⟨x,hx,rfl⟩:=List.mem_map.1 hp;exact ⟨(h1 x hx).1,(h1 x hx).2.1,by simp,by simp⟩
 have hpw:ps.Pairwise fun p q=>p.i6≠q.i6:=List.pairwise_map.2 h2
 have hl:=c2P hp;have a:=a4E hpw 0;have b:=a4E hpw 1;have c:=a4E hpw 2;have d:=a4E hpw 3;have:ps.length=r.b5.length:=e9r ..;omega
theorem d6o{r:m9}(h:a3g r ⟨[],[],0,0⟩=true):r=⟨[],[],0,0⟩:=(c1Y _ _).1 h
theorem d8T{e:m4}(h:x9 e=true)(hn:e.i8=true):e=eN:=by
 unfold x9 at h;rw [hn] at h;simp only [cond_true,e8G,beq_iff_eq,List.cons.injEq,and_true] at h;obtain ⟨⟨h1,h2⟩,h3⟩:=h;have h4:=d6o h3;clear h3;obtain ⟨n,⟨a,b⟩,r⟩:=e;simp only at hn h1 h2 h4;subst hn h1 h2 h4;rfl
theorem e0i{r:m9}(h:R6 r=true):b53 r:=by
 obtain ⟨h1,h2,_,h4,h5⟩:=a7O h;have r4:=d4K h;have p4:=e2t h;exact ⟨Z2 (by omega) fun x hx=>by have:=h4 x hx;exact ⟨z4 (by omega),z4 (by omega)⟩,
  Z2 (by omega) fun x hx=>by have:=h5 x hx;exact ⟨z4 (by omega),z4 (by omega)⟩,z4 (by omega),z4 (by omega)⟩
theorem a2a{e:m4}(h:x9 e=true):D7 e:=by
 cases hn:e.i8 with
 | true=>rw [d8T h hn];exact d2w
 | false =>
  obtain ⟨h1,h2,h3,_⟩:=a9k h hn;exact ⟨⟨z4 (by omega),z4 (by omega)⟩,e0i h3⟩
theorem d01{l:List m4}(hl:l.length<=1000)(h:∀e∈l,x9 e=true):z7 88 D7 l:=Z2 (by omega) fun e he=>a2a (h e he)
def VI(v:m6):Prop:=v=v0\/(1<=v.a8/\v.a8<=3000/\x9 v.i0=true)
theorem d3J{v:m6}:Y1 v=true↔VI v:=by
 unfold Y1 VI;by_cases hb:v.a8=0
 ·simp only [hb,beq_self_eq_true,cond_true,a3J];constructor
  ·intro h;left;obtain ⟨b,e⟩:=v;simp only at hb h;subst hb h;rfl
  ·rintro (h|h)
   ·rw [h];rfl
   ·omega
 ·have:(v.a8==0)=false:=by simpa using hb
  simp only [this,cond_false,e8G,J1];constructor
  ·intro h;exact .inr ⟨h.1.1,h.1.2,h.2⟩
  ·rintro (h|h)
   ·rw [h] at hb;exact absurd rfl hb
   ·exact ⟨⟨h.1,h.2.1⟩,h.2.2⟩
theorem VI.ok{v:m6}(h:VI v):P7 v:=by
 rcases h with rfl|⟨h1,h2,h3⟩
 ·exact c4D
 ·exact ⟨z4 (by omega),a2a h3⟩
theorem VI.bal{v:m6}(h:VI v):0<=v.a8/\v.a8<=3000:=by
 rcases h with rfl|⟨h1,h2,h3⟩
 ·exact ⟨by decide,by decide⟩
 ·exact ⟨by omega,h2⟩
theorem VI.zero{v:m6}(h:VI v)(hb:v.a8<=0):v=v0:=by
 rcases h with rfl|⟨h1,_⟩
 ·rfl
 ·omega
theorem VI.pos{v:m6}(h:VI v)(hb:v.a8>0):x9 v.i0=true:=by
 rcases h with rfl|⟨_,_,h⟩
 ·exact absurd hb (by decide)
 ·exact h
theorem a3e{l:List m6}(hl:l.length<=1000)(h:∀v∈l,VI v):z7 96 P7 l:=Z2 (by omega) fun v hv=>(h v hv).ok
theorem a7v{l:List m6}:K4 l=true↔l.length<=40/\∀v∈l,VI v:=by
 unfold K4;simp only [e8G,decide_eq_true_eq,List.all_eq_true,d3J]
structure d4w(id bal pr:Int)(best:List m6):Prop where
 b1:1<=bal
 b2:bal<=3000
 mod:e81 bal 3=id
 pr:bal<=pr
 bl:best.length<=40
 bs:∀v∈best,VI v
abbrev Own(n:j5):Prop:=d4w n.Id n.a8 n.Acc.i4 n.g9
def a1k(n:j5):Prop :=
 (n.d9=0/\n.a8=0/\n.d7=[]/\n.g9=[]/\n.c8=zE/\n.a5=[])\/
 (n.d9=1/\Own n/\n.d7.length=3/\n.d7[n.Id.toNat]?=some true/\n.c8=zE/\n.a5=[])\/
 (n.d9=2/\Own n/\n.d7=[]/\n.c8=zE/\n.a5=[])\/
 (n.d9=3/\Own n/\n.d7=[]/\x9 n.c8=true/\n.a5.length=3/\n.a5[n.Id.toNat]?=some true/\n.a6.length<40)
def c0v(n:j5):Prop :=
 (n.i7=true/\C7 n.i5=true/\x9 n.b6=true/\n.b6.i8=false/\n.b6.a0=⟨n.Id,n.Seq⟩)\/(n.i7=false/\n.i5=[]/\n.b6=zE)
structure NI(n:j5):Prop where
 id:0<=n.Id/\n.Id<=2
 pr:0<=n.Acc.i4/\n.Acc.i4<=3000
 vl:n.Acc.a5.length<=40
 vs:∀v∈n.Acc.a5,VI v/\v.a8<=n.Acc.i4
 kl:n.a6.length<=40
 ks:∀e∈n.a6,x9 e=true
 sq:0<=n.Seq/\n.Seq<=1000
 ql:n.d8.length<=4
 qs:∀e∈n.d8,x9 e=true/\e.i8=false
 ld:a1k n
 wt:c0v n
theorem b10{α:Type}{l:List α}:((l.length:Int)==0)=true↔l=[]:=by
 rw [beq_iff_eq];constructor
 ·intro h;exact e8N (by omega)
 ·rintro rfl;rfl
theorem d5N{α:Type}{l:List α}:((l.length:Int)=0)↔l=[]:=by rw [<-b10,beq_iff_eq]
theorem d2C{l:List Bool}{id:Int}(h:0<=id/\id<=2):a3V l id=true↔l.length=3/\l[id.toNat]?=some true:=by
 unfold a3V b3B;have e:idx l id=l[id.toNat]?:=by unfold idx;rw [if_pos h.1]
 rw [e,e8G,beq_iff_eq];constructor
 ·rintro ⟨h1,h2⟩
  refine ⟨by omega,?_⟩;cases hq:l[id.toNat]? with
  | none=>rw [hq] at h2;cases h2
  | some b=>rw [hq] at h2;simp at h2;rw [h2]
 ·rintro ⟨h1,h2⟩
  exact ⟨by omega,by rw [h2];rfl⟩
theorem c0O{n:j5}:a2E n=true↔n.c8=zE/\n.a5=[]:=by
 unfold a2E;rw [e8G,a3J,b10]
theorem d1N{n:j5}(hid:0<=n.Id/\n.Id<=2):a04 n=true↔a1k n:=by
 have hown:(V4 n.a8==n.Id)=true/\n.a8<=n.Acc.i4/\K4 n.g9=true↔Own n:=by
  rw [a7v];constructor
  ·rintro ⟨h1,h2,h3⟩
   have hb:=J1.1 (c9f (J1.2 hid) h1);unfold V4 at h1;rw [J1.2 hb] at h1;exact ⟨hb.1,hb.2,by simpa using h1,h2,h3.1,h3.2⟩
  ·intro h;refine ⟨?_,h.pr,h.bl,h.bs⟩;unfold V4;rw [J1.2 ⟨h.b1,h.b2⟩];simpa using h.mod
 unfold a04 a1k;by_cases p0:n.d9=0
 ·simp only [p0,beq_self_eq_true,cond_true,e8G,c0O,beq_iff_eq,d5N];constructor
  ·rintro ⟨a,b,c,d,e⟩;exact .inl ⟨trivial,a,b,c,d,e⟩
  ·rintro (h|h|h|h)
   ·exact ⟨h.2.1,h.2.2.1,h.2.2.2.1,h.2.2.2.2.1,h.2.2.2.2.2⟩
   all_goals exact absurd h.1 (by omega)
 ·have q0:(n.d9==0)=false:=by simpa using p0
  simp only [q0,cond_false,e8G,decide_eq_true_eq];rw [<-and_assoc,<-and_assoc,and_assoc (a:=(V4 n.a8==n.Id)=true),hown];by_cases p1:n.d9=1
  ·simp only [p1,beq_self_eq_true,cond_true,e8G,d2C hid,c0O];constructor
   ·rintro ⟨a,⟨b,c⟩,d,e⟩;exact .inr (.inl ⟨trivial,a,b,c,d,e⟩)
   ·rintro (h|h|h|h)
    ·exact absurd h.1 (by omega)
    ·exact ⟨h.2.1,⟨h.2.2.1,h.2.2.2.1⟩,h.2.2.2.2.1,h.2.2.2.2.2⟩
    all_goals exact absurd h.1 (by omega)
  ·have q1:(n.d9==1)=false:=by simpa using p1
   by_cases p2:n.d9=2
   ·have q2:(n.d9==2)=true:=by simpa using p2
    simp only [q1,q2,cond_true,cond_false,e8G,b10,c0O];constructor
    ·rintro ⟨a,b,c,d⟩;exact .inr (.inr (.inl ⟨p2,a,b,c,d⟩))
    ·rintro (h|h|h|h)
     ·exact absurd h.1 (by omega)
     ·exact absurd h.1 (by omega)
     ·exact ⟨h.2.1,h.2.2.1,h.2.2.2.1,h.2.2.2.2⟩
     ·exact absurd h.1 (by omega)
   ·have q2:(n.d9==2)=false:=by simpa using p2
    by_cases p3:n.d9=3
    ·have q3:(n.d9==3)=true:=by simpa using p3
     simp only [q1,q2,q3,cond_true,cond_false,e8G,b10,d2C hid,decide_eq_true_eq];constructor
     ·rintro ⟨a,b,c,⟨d,e⟩,f⟩;exact .inr (.inr (.inr ⟨p3,a,b,c,d,e,by omega⟩))
     ·rintro (h|h|h|h)
      ·exact absurd h.1 (by omega)
      ·exact absurd h.1 (by omega)
      ·exact absurd h.1 (by omega)
      ·exact ⟨h.2.1,h.2.2.1,h.2.2.2.1,⟨h.2.2.2.2.1,h.2.2.2.2.2.1⟩,by omega⟩
    ·have q3:(n.d9==3)=false:=by simpa using p3
     simp only [q1,q2,q3,cond_false,e9A,and_false,false_iff];rintro (h|h|h|h)<;>omega
theorem a9X{a b:p8}:(([a.d6,a.Seq]:List Int)==[b.d6,b.Seq])=true↔a=b:=by
 obtain ⟨a1,a2⟩:=a;obtain ⟨b1,b2⟩:=b;simp
theorem c6r{n:j5}:a39 n=true↔c0v n:=by
 unfold a39 c0v;cases n.i7
 ·simp only [cond_false,e8G,b10,a3J,e9A,false_and,false_or,true_and]
 ·simp only [cond_true,e8G,e9t,Bool.true_eq_false,false_and,or_false,true_and];rw [show (([n.b6.a0.d6,n.b6.a0.Seq]:List Int)==[n.Id,n.Seq])=true↔n.b6.a0=⟨n.Id,n.Seq⟩ from a9X (b:=⟨n.Id,n.Seq⟩)]
theorem a0w{n:j5}:C5 n=true↔NI n:=by
 unfold C5 N4 I3 b64;simp only [e8G,J1,a7v,List.all_eq_true,decide_eq_true_eq,e9t,decide_eq_false_iff_not];constructor
 ·rintro ⟨h1,⟨h2,h3,h4⟩,⟨h5,h6⟩,h7,h8,h9,h10,h11⟩
  exact ⟨h1,h2,h3.1,fun v hv=>⟨h3.2 v hv,by have:=h4 v hv;omega⟩,h5,h6,h7,by omega,h11,(d1N h1).1 h9,c6r.1 h10⟩
 ·intro h;exact ⟨h.id,⟨h.pr,⟨h.vl,fun v hv=>(h.vs v hv).1⟩,fun v hv=>by have:=(h.vs v hv).2;omega⟩,⟨h.kl,h.ks⟩,h.sq,by have:=h.ql;omega,(d1N h.id).2 h.ld,c6r.2 h.wt,h.qs⟩
theorem e3x{i:o8}(h:O2 i=true):b0w i:=by
 unfold O2 at h;by_cases k1:i.a7=1
 ·simp [k1,n9] at h;exact ⟨z4 (by omega),z4 (by omega),z4 (by omega),z4 (by omega)⟩
 by_cases k2:i.a7=2
 ·simp [k2,n9] at h;exact ⟨z4 (by omega),z4 (by omega),z4 (by omega),z4 (by omega)⟩
 by_cases k3:i.a7=3
 ·simp [k3,n9] at h;exact ⟨z4 (by omega),z4 (by omega),z4 (by omega),z4 (by omega)⟩
 by_cases k4:i.a7=4
 ·simp [k4,n9] at h;exact ⟨z4 (by omega),z4 (by omega),z4 (by omega),z4 (by omega)⟩
 by_cases k5:i.a7=5
 ·simp [k5,n9] at h;exact ⟨z4 (by omega),z4 (by omega),z4 (by omega),z4 (by omega)⟩
 by_cases k6:i.a7=6
 ·simp [k6,n9] at h;exact ⟨z4 (by omega),z4 (by omega),z4 (by omega),z4 (by omega)⟩
 by_cases k7:i.a7=7
 ·simp [k7] at h;exact ⟨z4 (by omega),z4 (by omega),z4 (by omega),z4 (by omega)⟩
 ·simp [k1,k2,k3,k4,k5,k6,k7] at h
theorem d1O{l:List o8}(h:C7 l=true):z7 32 b0w l:=by
 obtain ⟨h1,h2⟩:=b8p h;exact Z2 (by omega) fun i hi=>e3x (h2 i hi)
theorem a1k.phase{n:j5}(h:a1k n):0<=n.d9/\n.d9<=3:=by
 rcases h with h|h|h|h<;>omega
theorem a1k.bal{n:j5}(h:a1k n):0<=n.a8/\n.a8<=3000:=by
 rcases h with h|h|h|h
 ·omega
 all_goals exact ⟨by have:=h.2.1.b1;omega,h.2.1.b2⟩
theorem a1k.best{n:j5}(h:a1k n):n.g9.length<=40/\∀v∈n.g9,VI v:=by
 rcases h with h|h|h|h
 ·rw [h.2.2.2.1];exact ⟨by simp,by simp⟩
 all_goals exact ⟨h.2.1.bl,h.2.1.bs⟩
theorem a1k.from3{n:j5}(h:a1k n):n.d7.length<=3/\n.a5.length<=3/\D7 n.c8:=by
 rcases h with h|h|h|h
 ·rw [h.2.2.1,h.2.2.2.2.2,h.2.2.2.2.1];exact ⟨by simp,by simp,a0A⟩
 ·rw [h.2.2.2.2.2,h.2.2.2.2.1];exact ⟨by omega,by simp,a0A⟩
 ·rw [h.2.2.1,h.2.2.2.1,h.2.2.2.2];exact ⟨by simp,by simp,a0A⟩
 ·rw [h.2.2.1];exact ⟨by simp,by omega,a2a h.2.2.2.1⟩
theorem NI.ok{n:j5}(h:NI n):Q1 n:=by
 have hf:=h.ld.from3;have hb:=h.ld.best;have hw:D7 n.b6/\z7 32 b0w n.i5:=by
  rcases h.wt with q|q
  ·exact ⟨a2a q.2.2.1,d1O q.2.1⟩
  ·rw [q.2.1,q.2.2];exact ⟨a0A,Q9⟩
 have hph:=h.ld.phase;have hbl:=h.ld.bal;have h1:=h.id;have h2:=h.pr;have h3:=h.sq;have h4:=h.vl;have h5:=h.kl;have h6:=h.ql;exact ⟨z4 (by omega),⟨z4 (by omega),a3e (by omega) fun v hv=>(h.vs v hv).1⟩,d01 (by omega) h.ks,z4 (by omega),z4 (by omega),z4 (by omega),
  Z2 (by omega) (fun _ _=>trivial),a3e (by omega) hb.2,hf.2.2,Z2 (by omega) (fun _ _=>trivial),hw.2,hw.1,d01 (by omega) fun e he=>(h.qs e he).1⟩
theorem NI.list{n:j5}(h:NI n):I3 n.a6=true:=by
 unfold I3;simp only [e8G,decide_eq_true_eq,List.all_eq_true];exact ⟨h.kl,h.ks⟩
def R7(m:j7):Prop :=
 ((m.a7=1\/m.a7=4)/\(1<=m.a8/\m.a8<=3000)/\m.i0=zE/\m.a5=[])\/
 (m.a7=2/\(1<=m.a8/\m.a8<=3000)/\m.i0=zE/\(m.a5.length<=40/\∀v∈m.a5,VI v)/\m.g7+m.a5.length<=40)\/
 (m.a7=3/\(1<=m.a8/\m.a8<=3000)/\m.g7<40/\x9 m.i0=true/\m.a5=[])\/
 (m.a7=5/\m.a8=0/\m.g7<40/\x9 m.i0=true/\m.a5=[])\/
 (m.a7=6/\(1<=m.a8/\m.a8<=3000)/\m.g7=0/\m.i0=zE/\m.a5=[])\/
 (m.a7=7/\m.a8=0/\m.g7=0/\x9 m.i0=true/\m.i0.i8=false/\m.a5=[])\/
 (m.a7=8/\m.a8=0/\m.i0=zE/\m.a5=[])
structure MI(m:j7):Prop where
 fr:0<=m.d7/\m.d7<=2
 to:0<=m.To/\m.To<=2
 ne:m.d7≠m.To
 sl:0<=m.g7/\m.g7<=40
 kd:R7 m
theorem c9o{m:j7}:N3 m=true↔MI m:=by
 have hk:(0<=m.g7/\m.g7<=40)->(a5B m=true↔R7 m):=by
  intro hs;have hw:K4 m.a5=true->m7 (m.g7+(m.a5.length:Int))=m.g7+(m.a5.length:Int):=by
   intro hv;have:=(a7v.1 hv).1;exact B6 (by omega) (by omega)
  unfold a5B R7;simp only [Bool.cond_eq_ite];by_cases k1:m.a7=1
  ·simp [k1,J1,a3J]
  by_cases k4:m.a7=4
  ·simp [k4,J1,a3J]
  by_cases k2:m.a7=2
  ·simp only [k2,J1,a3J,beq_self_eq_true,if_true,e8G,decide_eq_true_eq];simp only [show ((2:Int)==1)=false from rfl,show ((2:Int)==4)=false from rfl,e9A,if_false,e8G,J1,a3J,decide_eq_true_eq];constructor
   ·rintro ⟨a,b,c,d⟩
    rw [hw c] at d;exact .inr (.inl ⟨trivial,a,b,a7v.1 c,d⟩)
   ·rintro (h|h|h|h|h|h|h)
    ·omega
    ·have c:=a7v.2 h.2.2.2.1;exact ⟨h.2.1,h.2.2.1,c,by rw [hw c];exact h.2.2.2.2⟩
    all_goals exact absurd h.1 (by omega)
  by_cases k3:m.a7=3
  ·simp [k3,J1]
  by_cases k5:m.a7=5
  ·simp [k5]
  by_cases k6:m.a7=6
  ·simp [k6,J1,a3J]
  by_cases k7:m.a7=7
  ·simp [k7]
  by_cases k8:m.a7=8
  ·simp [k8,a3J]
  ·simp [k1,k2,k3,k4,k5,k6,k7,k8]
 unfold N3;simp only [e8G,J1,e9t,beq_eq_false_iff_ne];constructor
 ·rintro ⟨a,b,c,d,e⟩;exact ⟨a,b,c,d,(hk d).1 e⟩
 ·intro h;exact ⟨h.fr,h.to,h.ne,h.sl,(hk h.sl).2 h.kd⟩
theorem MI.ok{m:j7}(h:MI m):X9 m:=by
 have hf:=h.fr;have ht:=h.to;have hs:=h.sl;have hk:G8 m.a7/\G8 m.a8/\D7 m.i0/\z7 96 P7 m.a5:=by
  rcases h.kd with q|q|q|q|q|q|q
  ·rw [q.2.2.1,q.2.2.2];exact ⟨z4 (by omega),z4 (by omega),a0A,Q9⟩
  ·rw [q.2.2.1];exact ⟨z4 (by omega),z4 (by omega),a0A,a3e (by omega) q.2.2.2.1.2⟩
  ·rw [q.2.2.2.2];exact ⟨z4 (by omega),z4 (by omega),a2a q.2.2.2.1,Q9⟩
  ·rw [q.2.2.2.2];exact ⟨z4 (by omega),z4 (by omega),a2a q.2.2.2.1,Q9⟩
  ·rw [q.2.2.2.2,q.2.2.2.1];exact ⟨z4 (by omega),z4 (by omega),a0A,Q9⟩
  ·rw [q.2.2.2.2.2];exact ⟨z4 (by omega),z4 (by omega),a2a q.2.2.2.1,Q9⟩
  ·rw [q.2.2.1,q.2.2.2];exact ⟨z4 (by omega),z4 (by omega),a0A,Q9⟩
 exact ⟨hk.1,z4 (by omega),z4 (by omega),hk.2.1,z4 (by omega),hk.2.2.1,hk.2.2.2⟩
structure WI(w:m5):Prop where
 nl:w.a9.length=3
 ns:∀(i:Nat) (n:j5),w.a9[i]?=some n->n.Id=(i:Int)/\NI n
 ml:w.b9.length<=40
 ms:∀m∈w.b9,MI m
 al:w.c9.length<=60
 aq:∀a∈w.c9,X5 a=true
 tl:w.Told.length<=60
 ts:∀t∈w.Told,Q4 t=true
theorem b2A{w:m5}:L0 w=true↔WI w:=by
 unfold L0;simp only [e8G,beq_iff_eq,decide_eq_true_eq,List.all_eq_true,e9u,c9o];constructor
 ·rintro ⟨h1,h2,h3,h4,h5,h6,h7,h8⟩
  refine ⟨by omega,?_,by omega,h6,by omega,h7,by omega,h8⟩;intro i n hn;have hi:=(e8I.1 hn).1;have:=h5 i hi;unfold a4n at this;rw [hn] at this;simp only [e8G,beq_iff_eq,a0w] at this;exact this
 ·intro h;have h2:=h.ml;have h3:=h.al;have h4:=h.tl;refine ⟨by have:=h.nl;omega,by omega,by omega,by omega,?_,h.ms,h.aq,h.ts⟩;intro i hi;unfold a4n;rw [e8D hi];simp only [e8G,beq_iff_eq,a0w];exact h.ns i _ (e8D hi)
theorem d3R{a:u5}(h:X5 a=true):c3n a:=by
 unfold X5 at h;simp only [e8G,J1] at h;exact ⟨⟨z4 (by omega),z4 (by omega)⟩,d1O h.2⟩
theorem d3v{t:m8}(h:Q4 t=true):c27 t:=by
 unfold Q4 at h;simp only [e8G,J1] at h;exact ⟨z4 (by omega),⟨z4 (by omega),z4 (by omega)⟩,z4 (by omega),z4 (by omega)⟩
theorem WI.ok{w:m5}(h:WI w):a2C w:=by
 have h1:=h.nl;have h2:=h.ml;have h3:=h.al;have h4:=h.tl;refine ⟨Z2 (by omega) ?_,Z2 (by omega) fun m hm=>(h.ms m hm).ok,Z2 (by omega) fun a ha=>d3R (h.aq a ha),Z2 (by omega) fun t ht=>d3v (h.ts t ht)⟩;intro n hn;obtain ⟨i,hi⟩:=e9Q hn;exact (h.ns i n hi).2.ok
theorem b4U(m o:j7):a4f m o=some [K3 m o]:=rfl
theorem c5G(n:j5)(b:Int):b0g n b=some (N2 n b):=by
 unfold b0g N2;cases n.d9 != 0
 ·rfl
 ·simp only [cond_true,e8V];cases decide (b>n.a8)<;>rfl
theorem e1i(n:j5)(b:Int):b0f n b=some (N2 n b):=by
 unfold b0f N2;cases n.d9 != 0
 ·rfl
 ·simp only [cond_true,e8V];cases decide (b>n.a8)<;>rfl
theorem e8q(n:j5)(b:Int):(N2 n b).Acc=n.Acc:=by
 unfold N2;cases n.d9 != 0&&decide (b>n.a8)<;>rfl
theorem a5m{a x:v6}{b:Int}(h:H6 a b=some x):x=⟨b,a.a5⟩/\1<=b/\b<=3000/\a.i4<=b:=by
 unfold H6 a9q at h;cases hq:n9 b 1 3000&&decide (a.i4<=b)
 ·rw [hq] at h;cases h
 ·rw [hq] at h;simp only [e8G,J1,decide_eq_true_eq] at hq;injection h with h;exact ⟨h.symm,hq.1.1,hq.1.2,hq.2⟩
theorem c0T{α:Type}(l:List α)(k:Nat):(l.drop k).take (l.length-k)=l.drop k:=by
 rw [e86];simp
theorem e8b{n:j5}(h:Q1 n){m:j7}(hs:0<=m.g7):b45 n m=some (a2F n m):=by
 unfold b45 a2F;rw [c2x,b5l];cases hp:H6 n.Acc m.a8 with
 | none=>rfl
 | some a =>
  obtain ⟨rfl,_⟩:=a5m hp;simp only [a4u,e8C,e8H,cond_false,e1i];have ha:=e8q {n with Acc:=⟨m.a8,n.Acc.a5⟩} m.a8;have hy:∀y:j5,y.Acc=⟨m.a8,n.Acc.a5⟩->(j5.mk y.Id (v6.mk y.Acc.i4 n.Acc.a5) y.a6 y.Seq y.d9 y.a8 y.d7 y.g9 y.c8 y.a5 y.i7 y.i5 y.b6 y.d8)=y:=by
   intro y hy;obtain ⟨y1,y2,y3,y4,y5,y6,y7,y8,y9,y10,y11,y12,y13,y14⟩:=y;simp only at hy;subst hy;rfl
  rw [hy _ ha];obtain ⟨k,hk⟩:∃k:Nat,m.g7=(k:Int):=⟨m.g7.toNat,by omega⟩
  rw [hk,e82,c0T];cases hd:decide ((k:Int)<(n.Acc.a5.length:Int))
  ·simp only [cond_false,b4U,e8C];rw [e8S (by simp at hd;omega)]
  ·simp only [cond_true];rw [t5 (by simp at hd;omega),d8Q (e3H h.2.1.2 (by simp) fun x hx=>e9i hx),e8C,b4U,e8C]
theorem e5n{n:j5}{m:j7}(hm:X9 m):b3v n m=some (a3h n m):=by
 have he:D7 m.i0:=hm.2.2.2.2.2.1;unfold b3v a3h;rw [d06 he,c30 he];cases M5 n.Acc m.a8 m.g7 m.i0 with
 | none=>rfl
 | some a=>simp only [a4u,e8C,e8H,cond_false,c5G,b4U]
theorem b5s{l:List Bool}(h:l.length<=3):t6 l:=by unfold t6;omega
theorem d2V{n:j5}(h:NI n){m:j7}(hm:MI m)(hk:m.a7=2):b4y n m=some (a2T n m):=by
 have hkd:(m.a5.length<=40/\∀v∈m.a5,VI v)/\m.g7+m.a5.length<=40:=by
  rcases hm.kd with q|q|q|q|q|q|q
  ·omega
  ·exact ⟨q.2.2.2.1,q.2.2.2.2⟩
  all_goals exact absurd q.1 (by omega)
 have hs:=hm.sl;have hf:=hm.fr;unfold b4y a2T;by_cases p1:n.d9=1
 ·rw [show (n.d9 != 1)=false by simp [p1],e9a];simp only [cond_false];cases hb:m.a8 != n.a8
  ·simp only [cond_false];have hl:n.d7.length=3/\Own n:=by
    rcases h.ld with q|q|q|q
    ·omega
    ·exact ⟨q.2.2.1,q.2.1⟩
    all_goals exact absurd q.1 (by omega)
   obtain ⟨f,hff⟩:∃f:Nat,m.d7=(f:Int):=⟨m.d7.toNat,by omega⟩
   have hvo:z7 96 P7 (e8E m.g7.toNat v0++m.a5):=a3e (by simp;omega) (by
    intro v hv;rcases List.mem_append.1 hv with q|q
    ·rw [(e9f.1 q).2];exact .inl rfl
    ·exact hkd.1.2 v q)
   have hz:∀v∈e8E m.g7.toNat v0++m.a5,v.a8<=0->v=v0:=by
    intro v hv hb;rcases List.mem_append.1 hv with q|q
    ·exact (e9f.1 q).2
    ·exact (hkd.1.2 v q).zero hb
   rw [hff,u0 (show f<n.d7.length by omega),e8C,e8a (a3e (by omega) hkd.1.2) hkd.1.1 hs,e8C,d5w (a3e (by have:=hl.2.bl;omega) hl.2.bs) hvo (by have:=hl.2.bl;omega) (by simp;omega) hz,e8C,c36 (b5s (by simp;omega)),e8C];cases htw:N0 (n.d7.set (f:Int).toNat true)
   ·simp only [e8W,cond_true,cond_false]
   ·simp only [e8H,cond_false,cond_true];have hbl:=a9D n.g9 (e8E m.g7.toNat v0++m.a5);have hob:=hl.2.bl;have hlen:(e8E m.g7.toNat v0++m.a5).length<=40:=by simp;omega
    obtain ⟨h1,h2,h3,h4,h5,h6,h7,h8,h9,h10,h11,h12,h13⟩:=h.ok;rw [b05 (n:=⟨n.Id,n.Acc,n.a6,n.Seq,2,n.a8,[],D6 n.g9 (e8E m.g7.toNat v0++m.a5),n.c8,n.a5,n.i7,n.i5,n.b6,n.d8⟩) ⟨h1,h2,h3,h4,z4 (n:=2) (by omega),h6,Q9,a3e (by show (D6 n.g9 (e8E m.g7.toNat v0++m.a5)).length<=1000;omega) (fun v hv=>(b0X hv).elim (fun q=>hl.2.bs v q) (fun q=>(List.mem_append.1 q).elim (fun q=>by rw [(e9f.1 q).2];exact .inl rfl) (hkd.1.2 v))),h9,h10,h11,h12,h13⟩ h.id,e8C]
  ·rfl
 ·rw [show (n.d9 != 1)=true by simpa using p1];rfl
theorem Z8(id:Int)(m:j7):(I9 id m).length<=3:=by
 unfold I9;rw [e9r];exact List.length_filter_le _ _
theorem a6S(n:j5):(M4 n).2.length<=3:=by
 unfold M4 a6M;cases n.d9 != 2||decide (40<=n.a6.length)
 ·simp only [cond_false];cases a0H n with
  | mk x o =>
   cases o with
   | none=>simp
   | some e =>
    simp only;cases M5 x.Acc x.a8 (x.a6.length:Int) e with
    | none=>simp
    | some a=>exact Z8 _ _
 ·simp
theorem d8M{n:j5}(h:NI n){m:j7}(hm:MI m):b4k n m=some (a4g n m):=by
 have hf:=hm.fr;unfold b4k a4g;by_cases p3:n.d9=3
 ·rw [show (n.d9 != 3)=false by simp [p3],e9a];simp only [cond_false];cases hb:m.a8 != n.a8
  ·simp only [cond_false,e9a];cases hs:m.g7 != (n.a6.length:Int)
   ·simp only [cond_false];have hl:n.a5.length=3/\x9 n.c8=true/\n.a6.length<40:=by
     rcases h.ld with q|q|q|q
     ·omega
     ·omega
     ·omega
     ·exact ⟨q.2.2.2.2.1,q.2.2.2.1,q.2.2.2.2.2.2⟩
    obtain ⟨f,hff⟩:∃f:Nat,m.d7=(f:Int):=⟨m.d7.toNat,by omega⟩
    have hcur:=a2a hl.2.1;rw [hff,u0 (show f<n.a5.length by omega),e8C,c36 (b5s (by simp;omega)),e8C];cases htw:N0 (n.a5.set (f:Int).toNat true)
    ·simp only [e8W,cond_true,cond_false]
    ·simp only [e8H,cond_false,cond_true];obtain ⟨h1,h2,h3,h4,h5,h6,h7,h8,h9,h10,h11,h12,h13⟩:=h.ok;rw [a0m hcur,e8C,a5P h.id (a6q (z4 (by omega)) Y6 (z4 (by omega)) hcur Q9),e8C,
      c8J (n:={n with a5:=n.a5.set (f:Int).toNat true}) ⟨h1,h2,h3,h4,h5,h6,h7,h8,h9,Z2 (by simp;omega) (fun _ _=>trivial),h11,h12,h13⟩ h.id h.list hl.2.2 hcur hl.2.1,e8C,t5]
     have e1:=Z8 n.Id ⟨5,0,0,0,(n.a6.length:Int),n.c8,[]⟩;have e2:=a6S (T1 (H4 {n with a5:=n.a5.set (f:Int).toNat true} n.c8)).1;have e3:(X8 {n with a5:=n.a5.set (f:Int).toNat true} n.c8).2.1.length<=3:=e2;omega
   ·rfl
  ·rfl
 ·rw [show (n.d9 != 3)=true by simpa using p3];rfl
theorem d5U{n:j5}(h:NI n){m:j7}(hm:MI m)(hk:m.a7=5):b73 n m=some (a4r n m):=by
 have hkd:m.g7<40/\x9 m.i0=true:=by
  rcases hm.kd with q|q|q|q|q|q|q
  ·omega
  ·omega
  ·omega
  ·exact ⟨q.2.2.1,q.2.2.2.1⟩
  all_goals exact absurd q.1 (by omega)
 unfold b73 a4r;cases h1:decide (m.g7<(n.a6.length:Int))
 ·cases h2:decide (m.g7>(n.a6.length:Int))
  ·simp only [cond_false];have hl:n.a6.length<40:=by simp at h1 h2;omega
   rw [c8J h.ok h.id h.list hl (a2a hkd.2) hkd.2,e8C]
  ·rfl
 ·rfl
theorem e6X{n:j5}(h:NI n){m:j7}(hm:MI m):b5n n m=some (a27 n m):=by
 have he:D7 m.i0:=hm.ok.2.2.2.2.2.1;have hql:=h.ql;unfold b5n a27;rw [show decide ((n.d8.length:Int)>=4)=decide (4<=n.d8.length) by simp;omega,b5c (h.ok.2.2.1.fits (by decide)),a0m he];cases n.d9==0
 ·simp only [cond_false,e9a];cases decide (4<=n.d8.length)
  ·simp only [cond_false,e9a,e8C];cases L5 n.a6 m.i0.a0
   ·obtain ⟨h1,h2,h3,h4,h5,h6,h7,h8,h9,h10,h11,h12,h13⟩:=h.ok;simp only [cond_false];rw [t5 (by omega),b05 (n:={n with d8:=n.d8++[m.i0]}) ⟨h1,h2,h3,h4,h5,h6,h7,h8,h9,h10,h11,h12,Z2 (by simp;omega) (by
     intro x hx;rcases List.mem_append.1 hx with q|q
     ·exact h13.2 x q
     ·rw [e8J.1 q];exact he)⟩ h.id,e8C]
   ·rfl
  ·rfl
 ·rfl
theorem b40{n:j5}(m:j7){k:Nat}(hk:k<n.a6.length):a01 n m k=[K3 m ⟨5,0,0,0,(k:Int),n.a6[k],[]⟩]:=by
 unfold a01;rw [e8D hk]
theorem c9U{n:j5}(h:NI n)(m:j7):∀(d k:Nat) (o:List j7),n.a6.length-k=d->o.length<=k->o9 (fun s:(List j7)×Int=>a5p n m s.1 s.2) (o,(k:Int))=some (.brk (o++((e8M d).map fun j=>a01 n m (k+j)).flatten))
 | 0,k,o,hd,ho=>by
  have hkl:=h.kl;refine (C2 (b:=o) ?_).trans (by simp);show a5p n m o (k:Int)=_
  unfold a5p;rw [show decide ((k:Int)<(n.a6.length:Int))=false by simp;omega];rfl
 | d+1,k,o,hd,ho=>by
  have hkl:=h.kl;have hlt:k<n.a6.length:=by omega
  have hb:a5p n m o (k:Int)=some (.nxt (o++a01 n m k,((k+1:Nat):Int))):=by
   unfold a5p;rw [w8 _ k hlt,u0 hlt,cond_true,e8C,a0m (a2a (h.ks _ (e8F hlt))),e8C,b4U,e8C,t5 (by simp;omega),b40 m hlt,F3 (h.ok.2.2.1.fits (by decide)) hlt]
  rw [C9 (body:=fun s:(List j7)×Int=>a5p n m s.1 s.2) (s:=(o,(k:Int))) hb,c9U h m d (k+1) _ (by omega) (by rw [b40 m hlt];simp;omega)];rw [List.range_succ_eq_map,e84,e8Z,e8R,e97];simp only [e9M,Function.comp_def,Nat.succ_eq_add_one,Nat.add_assoc,Nat.add_comm 1]
theorem e0s{n:j5}(h:NI n){m:j7}(hs:0<=m.g7):b5I n m=some (a4D n m,n):=by
 unfold b5I a4D;obtain ⟨k,hk⟩:∃k:Nat,m.g7=(k:Int):=⟨m.g7.toNat,by omega⟩
 rw [hk];have:=c9U h m (n.a6.length-k) k [] rfl (by simp);rw [this];rfl
theorem e2H{n:j5}(h:NI n){m:j7}(hm:MI m):b3F n m=some (Y2 n m):=by
 unfold b3F Y2;rw [e8b h.ok hm.sl.1,e5n hm.ok,d8M h hm,e6X h hm,e0s h hm.sl.1,b5l];by_cases k1:m.a7=1
 ·simp [k1];rfl
 rw [show (m.a7==1)=false by simpa using k1];by_cases k2:m.a7=2
 ·rw [d2V h hm k2];simp [k2];rfl
 rw [show (m.a7==2)=false by simpa using k2];by_cases k3:m.a7=3
 ·simp [k3];rfl
 rw [show (m.a7==3)=false by simpa using k3];by_cases k4:m.a7=4
 ·simp [k4];rfl
 rw [show (m.a7==4)=false by simpa using k4];by_cases k5:m.a7=5
 ·rw [d5U h hm k5];simp [k5];rfl
 rw [show (m.a7==5)=false by simpa using k5];by_cases k6:m.a7=6
 ·rw [show (m.a7==6)=true by simpa using k6];simp only [cond_true,cond_false,e8C];cases H6 n.Acc m.a8<;>simp only [c5G,e8C,Option.getD_none,e9D]<;>rfl
 rw [show (m.a7==6)=false by simpa using k6];by_cases k7:m.a7=7
 ·simp [k7];rfl
 rw [show (m.a7==7)=false by simpa using k7];cases m.a7==8
 ·rfl
 ·simp only [cond_true,cond_false,e8C];rw [t5 trivial,t5 trivial,t5 trivial,t5 trivial,t5 trivial];rfl
theorem b8c{a x:v6}{b s:Int}{e:m4}(h:M5 a b s e=some x):∃k:Nat,s=(k:Int)/\k<40/\x9 e=true/\1<=b/\b<=3000/\a.i4<=b/\x=⟨b,(V0 a.a5 (k+1)).set k ⟨b,e⟩⟩:=by
 unfold M5 at h;cases hq:n9 s 0 39&&x9 e
 ·rw [hq] at h;cases h
 ·rw [hq,cond_true] at h;simp only [e8G,J1] at hq;cases hp:H6 a b with
  | none=>rw [hp] at h;cases h
  | some y =>
   rw [hp] at h;obtain ⟨rfl,h1,h2,h3⟩:=a5m hp;injection h with h;refine ⟨s.toNat,by omega,by omega,hq.2,h1,h2,h3,h.symm⟩
theorem b7N{a:v6}{b:Int}(h1:1<=b)(h2:b<=3000)(h3:a.i4<=b):H6 a b=some ⟨b,a.a5⟩:=by
 unfold H6 a9q;rw [J1.2 ⟨h1,h2⟩,show decide (a.i4<=b)=true by simpa using h3];rfl
theorem d9R{a:v6}{b:Int}{k:Nat}{e:m4}(hk:k<40)(he:x9 e=true)(h1:1<=b)(h2:b<=3000)(h3:a.i4<=b):M5 a b (k:Int) e=some ⟨b,(V0 a.a5 (k+1)).set k ⟨b,e⟩⟩:=by
 unfold M5;rw [J1.2 (show 0<=(k:Int)/\(k:Int)<=39 by omega),he,b7N h1 h2 h3];rfl
theorem c1B{vs:List m6}{n:Nat}{v:m6}(h:v∈V0 vs n):v∈vs\/v=v0:=by
 rcases List.mem_append.1 h with q|q
 ·exact .inl q
 ·exact .inr (e9f.1 q).2
theorem c7g{α:Type}{l:List α}{k:Nat}{x v:α}(h:v∈l.set k x):v∈l\/v=x:=List.mem_or_eq_of_mem_set h
theorem NI.queue{n:j5}(h:NI n){q:List m4}(hl:q.length<=4)(hm:∀e∈q,x9 e=true/\e.i8=false):NI {n with d8:=q} :=
 ⟨h.id,h.pr,h.vl,h.vs,h.kl,h.ks,h.sq,hl,hm,h.ld,h.wt⟩
theorem NI.down{n:j5}(h:NI n):NI (a4d n) :=
 ⟨h.id,h.pr,h.vl,h.vs,h.kl,h.ks,h.sq,h.ql,h.qs,.inl ⟨rfl,rfl,rfl,rfl,rfl,rfl⟩,h.wt⟩
theorem NI.freeN{n:j5}(h:NI n):NI (a4L n) :=
 ⟨h.id,h.pr,h.vl,h.vs,h.kl,h.ks,h.sq,h.ql,h.qs,h.ld,.inr ⟨rfl,rfl,rfl⟩⟩
theorem NI.acc{n:j5}(h:NI n){a:v6}(h1:0<=a.i4/\a.i4<=3000)(h2:a.a5.length<=40)(h3:∀v∈a.a5,VI v/\v.a8<=a.i4)(h4:n.Acc.i4<=a.i4):NI {n with Acc:=a}:=by
 have ho:Own n->Own {n with Acc:=a}:=fun o=>⟨o.b1,o.b2,o.mod,Int.le_trans o.pr h4,o.bl,o.bs⟩
 refine ⟨h.id,h1,h2,h3,h.kl,h.ks,h.sq,h.ql,h.qs,?_,h.wt⟩;rcases h.ld with q|q|q|q
 ·exact .inl q
 ·exact .inr (.inl ⟨q.1,ho q.2.1,q.2.2⟩)
 ·exact .inr (.inr (.inl ⟨q.1,ho q.2.1,q.2.2⟩))
 ·exact .inr (.inr (.inr ⟨q.1,ho q.2.1,q.2.2⟩))
theorem NI.promise{n:j5}(h:NI n){b:Int}{x:v6}(hp:H6 n.Acc b=some x):NI {n with Acc:=x}:=by
 obtain ⟨rfl,h1,h2,h3⟩:=a5m hp;exact h.acc ⟨by simp only;omega,h2⟩ h.vl (fun v hv=>⟨(h.vs v hv).1,Int.le_trans (h.vs v hv).2 h3⟩) h3
theorem e1d{vs:List m6}{p b:Int}{k:Nat}{e:m4}(hk:k<40)(hl:vs.length<=40)(hv:∀v∈vs,VI v/\v.a8<=p)(he:x9 e=true)(h1:1<=b)(h2:b<=3000)(h3:p<=b) :
  ((V0 vs (k+1)).set k ⟨b,e⟩).length<=40/\∀v∈(V0 vs (k+1)).set k ⟨b,e⟩,VI v/\v.a8<=b:=by
 refine ⟨by rw [e9N,b9b];omega,fun v hm => ?_⟩;rcases c7g hm with q|q
 ·rcases c1B q with q|q
  ·exact ⟨(hv v q).1,Int.le_trans (hv v q).2 h3⟩
  ·rw [q];exact ⟨.inl rfl,by show (0:Int)<=b;omega⟩
 ·rw [q];exact ⟨.inr ⟨h1,h2,he⟩,Int.le_refl _⟩
theorem NI.cast{n:j5}(h:NI n){b s:Int}{e:m4}{x:v6}(hc:M5 n.Acc b s e=some x):NI {n with Acc:=x}:=by
 obtain ⟨k,rfl,hk,he,h1,h2,h3,rfl⟩:=b8c hc;obtain ⟨a,b'⟩:=e1d hk h.vl h.vs he h1 h2 h3;exact h.acc ⟨by simp only;omega,h2⟩ a b' h3
theorem NI.yield{n:j5}(h:NI n)(b:Int):NI (N2 n b):=by
 unfold N2;cases n.d9 != 0&&decide (b>n.a8)
 ·exact h
 ·exact h.down
theorem c1j{id:Int}(h:0<=id/\id<=2):(a7Z id).length=3/\(a7Z id)[id.toNat]?=some true:=by
 unfold a7Z;refine ⟨by simp,?_⟩;rw [e9v (by simp;omega)]
theorem a19.right{n:j5}(h:NI n){e:m4}(hn:a19 n e):x9 e=true:=by
 cases hn with
 | best v hv hb=>exact (h.ld.best.2 v (e8P hv)).pos hb
 | gap=>rfl
 | want hb =>
  rcases h.wt with q|q
  ·exact q.2.2.1
  ·rw [hb] at q;cases q.1
 | queue e hq=>exact (h.qs e hq).1
theorem d4L{id:Int}{m x:j7}(hid:0<=id/\id<=2)(h:x∈I9 id m):∃t:Int,0<=t/\t<=2/\t≠id/\x={m with d7:=id,To:=t}:=by
 unfold I9 at h;obtain ⟨t,ht,rfl⟩:=List.mem_map.1 h;obtain ⟨h1,h2⟩:=List.mem_filter.1 ht;refine ⟨t,?_,?_,by simpa using h2,rfl⟩;all_goals simp at h1;omega
theorem a51{id:Int}{m:j7}(hid:0<=id/\id<=2)(hk:R7 m)(hs:0<=m.g7/\m.g7<=40):∀x∈I9 id m,MI x:=by
 intro x hx;obtain ⟨t,h1,h2,h3,rfl⟩:=d4L hid hx;exact ⟨hid,⟨h1,h2⟩,fun q=>h3 q.symm,hs,hk⟩
theorem a8R{m o:j7}(hm:MI m)(hk:R7 o)(hs:0<=o.g7/\o.g7<=40):MI (K3 m o):=⟨hm.to,hm.fr,fun q=>hm.ne q.symm,hs,hk⟩
theorem R7.one{k b s:Int}(hk:k=1\/k=4)(hb:1<=b/\b<=3000):R7 ⟨k,0,0,b,s,zE,[]⟩:=.inl ⟨hk,hb,rfl,rfl⟩
theorem R7.accept{b s:Int}{e:m4}(hb:1<=b/\b<=3000)(hs:s<40)(he:x9 e=true):R7 ⟨3,0,0,b,s,e,[]⟩:=.inr (.inr (.inl ⟨rfl,hb,hs,he,rfl⟩))
theorem R7.chosen{s:Int}{e:m4}(hs:s<40)(he:x9 e=true):R7 ⟨5,0,0,0,s,e,[]⟩:=.inr (.inr (.inr (.inl ⟨rfl,rfl,hs,he,rfl⟩)))
theorem R7.refuse{b:Int}(hb:1<=b/\b<=3000):R7 ⟨6,0,0,b,0,zE,[]⟩:=.inr (.inr (.inr (.inr (.inl ⟨rfl,hb,rfl,rfl,rfl⟩))))
theorem R7.ask{e:m4}(he:x9 e=true)(hn:e.i8=false):R7 ⟨7,0,0,0,0,e,[]⟩:=.inr (.inr (.inr (.inr (.inr (.inl ⟨rfl,rfl,rfl,he,hn,rfl⟩)))))
theorem R7.need{s:Int}:R7 ⟨8,0,0,0,s,zE,[]⟩:=.inr (.inr (.inr (.inr (.inr (.inr ⟨rfl,rfl,rfl,rfl⟩)))))
structure P4(n:j5)(x:j5×List j7):Prop where
 ni:NI x.1
 id:x.1.Id=n.Id
 ms:∀m∈x.2,MI m
theorem P4.same{n:j5}(h:NI n):P4 n (n,[]):=⟨h,rfl,by simp⟩
theorem P4.to{n n':j5}(hi:n'.Id=n.Id){x:j5×List j7}(h:P4 n' x):P4 n x:=⟨h.ni,h.id.trans hi,h.ms⟩
theorem b0U{n:j5}(h:NI n):P4 n (M4 n):=by
 unfold M4;cases hc:n.d9 != 2||decide (40<=n.a6.length)
 ·simp only [cond_false];simp only [e9T,bne_eq_false_iff_eq,decide_eq_false_iff_not] at hc;obtain ⟨q,hq,hql,hqm,hqe⟩:=b0W n;cases hx:a0H n with
  | mk x o =>
  rw [hx] at hq hqe;have hq:x={n with d8:=q}:=hq;have hn:NI {n with d8:=q}:=h.queue (by have:=h.ql;omega) fun e he=>h.qs e (hqm e he)
  subst hq;cases o with
  | none=>exact ⟨hn,rfl,by simp⟩
  | some e =>
   have he:=(hqe e rfl).right h;simp only [a6M];have ho:Own n:=by
    rcases h.ld with q|q|q|q
    ·omega
    ·omega
    ·exact q.2.1
    ·omega
   cases hcs:M5 n.Acc n.a8 (n.a6.length:Int) e with
   | none=>exact ⟨hn.down,rfl,by simp⟩
   | some a =>
    have hac:=hn.cast (b:=n.a8) (s:=(n.a6.length:Int)) (e:=e) hcs;obtain ⟨k,hk,hk40,_,h1,h2,h3,rfl⟩:=b8c hcs;refine ⟨⟨h.id,hac.pr,hac.vl,hac.vs,h.kl,h.ks,h.sq,hn.ql,hn.qs,?_,h.wt⟩,rfl,a51 h.id (.accept ⟨h1,h2⟩ (by omega) he) (by simp only;omega)⟩;refine .inr (.inr (.inr ⟨rfl,⟨ho.b1,ho.b2,ho.mod,Int.le_refl _,ho.bl,ho.bs⟩,?_,he,(c1j h.id).1,(c1j h.id).2,by simp only;omega⟩));rcases h.ld with q|q|q|q
    ·omega
    ·omega
    ·exact q.2.2.1
    ·omega
 ·exact .same h
theorem NI.know{n:j5}(h:NI n){e:m4}(he:x9 e=true)(hl:n.a6.length<40):NI (H4 n e):=by
 have hks:∀x∈n.a6++[e],x9 x=true:=by
  intro x hx;rcases List.mem_append.1 hx with q|q
  ·exact h.ks x q
  ·rw [e8J.1 q];exact he
 have hkl:(n.a6++[e]).length<=40:=by simp;omega
 unfold H4;by_cases p3:n.d9=3
 ·rw [show (n.d9==3)=true by simpa using p3];refine ⟨h.id,h.pr,h.vl,h.vs,hkl,hks,h.sq,h.ql,h.qs,?_,h.wt⟩;rcases h.ld with q|q|q|q
  ·omega
  ·omega
  ·omega
  ·exact .inr (.inr (.inl ⟨rfl,⟨q.2.1.b1,q.2.1.b2,q.2.1.mod,q.2.1.pr,q.2.1.bl,q.2.1.bs⟩,q.2.2.1,rfl,rfl⟩))
 ·rw [show (n.d9==3)=false by simpa using p3];refine ⟨h.id,h.pr,h.vl,h.vs,hkl,hks,h.sq,h.ql,h.qs,?_,h.wt⟩;rcases h.ld with q|q|q|q
  ·exact .inl q
  ·exact .inr (.inl ⟨q.1,⟨q.2.1.b1,q.2.1.b2,q.2.1.mod,q.2.1.pr,q.2.1.bl,q.2.1.bs⟩,q.2.2⟩)
  ·exact .inr (.inr (.inl ⟨q.1,⟨q.2.1.b1,q.2.1.b2,q.2.1.mod,q.2.1.pr,q.2.1.bl,q.2.1.bs⟩,q.2.2⟩))
  ·exact absurd q.1 p3
theorem d3U{s:u6}{e:m4}(hn:e.i8=false):0<=(apply s e).2/\(apply s e).2<=4:=by
 have hf:0<=(a00 s e).2/\(a00 s e).2<=4:=by
  unfold a00;cases a3t s.g8 e.b8
  ·exact ⟨by simp,by simp⟩
  ·cases e.b8.Code==0<;>exact ⟨by simp,by simp⟩
 unfold apply;rw [hn];simp only [cond_false];cases s.i9.find? fun d=>d.a0.d6==e.a0.d6 with
 | none=>exact hf
 | some d =>
  simp only;cases d.a0.Seq==e.a0.Seq
  ·cases decide (d.a0.Seq>e.a0.Seq)
   ·exact hf
   ·exact ⟨by simp,by simp⟩
  ·exact ⟨by simp,by simp⟩
theorem b2y{l:List m4}{q:p8}{k:Nat}(h:l.findIdx? (G4 q)=some k):∃hk:k<l.length,l[k].i8=false/\l[k].a0=q:=by
 rw [e9C] at h;obtain ⟨hk,h1,_⟩:=h;unfold G4 at h1;simp only [e8G,e9t] at h1;exact ⟨hk,h1.1,a9X.1 h1.2⟩
theorem c0g{l:List m4}(h:I3 l=true){k:Nat}(hk:k<l.length):Q8 l k=(apply (z5 (l.take k)).1 l[k]).2:=by
 obtain ⟨a,b⟩:=a6k h;unfold Q8;rw [c7S a b hk];rfl
theorem e5f{l:List m4}(h:∀e∈l,x9 e=true)(q:p8):-1000000<=a0M l q/\a0M l q<=1000000:=by
 unfold a0M;cases hf:l.findIdx? (G4 q) with
 | none=>exact ⟨by simp,by simp⟩
 | some k =>
  obtain ⟨hk,h1,h2⟩:=b2y hf;simp only [e8D hk];exact (a7O (a9k (h _ (e8F hk)) h1).2.2.1).2.1
theorem e6x{n:j5}(h:NI n):NI (T1 n).1/\∀t∈(T1 n).2,Q4 t=true:=by
 rcases b0Z n with q|⟨k,hb,hk,q⟩<;>rw [q]
 ·exact ⟨h,by simp⟩
 ·refine ⟨h.freeN,fun t ht => ?_⟩;obtain ⟨hkl,h1,h2⟩:=b2y hk;have ht:=e8J.1 ht;subst ht;have hw:n.b6.a0=⟨n.Id,n.Seq⟩/\x9 n.b6=true/\n.b6.i8=false:=by
   rcases h.wt with q|q
   ·exact ⟨q.2.2.2.2,q.2.2.1,q.2.2.2.1⟩
   ·rw [hb] at q;cases q.1
  obtain ⟨w1,w2,_⟩:=a9k hw.2.1 hw.2.2;have hc:=d3U (s:=(z5 (n.a6.take k)).1) h1;rw [<-c0g h.list hkl] at hc;have hv:=e5f h.ks n.b6.a0;unfold Q4;simp only [e8G,J1,beq_iff_eq];refine ⟨h.id,⟨w1,w2⟩,by rw [hw.1],hc,?_⟩;cases Q8 n.a6 k==0
  ·exact ⟨by simp,by simp⟩
  ·exact hv
structure a48(n:j5)(x:j5×List j7×List m8):Prop where
 ni:NI x.1
 id:x.1.Id=n.Id
 ms:∀m∈x.2.1,MI m
 ts:∀t∈x.2.2,Q4 t=true
theorem P4.three{n:j5}{x:j5×List j7}(h:P4 n x):a48 n (x.1,x.2,[]):=⟨h.ni,h.id,h.ms,by simp⟩
theorem a48.same{n:j5}(h:NI n):a48 n (n,[],[]):=⟨h,rfl,by simp,by simp⟩
theorem c4N{n:j5}(h:NI n){e:m4}(he:x9 e=true)(hl:n.a6.length<40):a48 n (X8 n e):=by
 have h1:=h.know he hl;obtain ⟨h2,h3⟩:=e6x h1;have h4:=b0U h2;exact ⟨h4.ni,h4.id.trans ((c6m _).trans (b9n _ _)),h4.ms,h3⟩
theorem d34{a:v6}{b:Int}(h:H6 a b=none)(hb:1<=b/\b<=3000):b<a.i4:=by
 by_cases q:a.i4<=b
 ·rw [b7N hb.1 hb.2 q] at h;cases h
 ·omega
theorem e3j{n:j5}(h:NI n){m:j7}(hm:MI m)(hk:m.a7=1):P4 n (a2F n m):=by
 have hb:1<=m.a8/\m.a8<=3000:=by
  rcases hm.kd with q|q|q|q|q|q|q
  ·exact q.2.1
  all_goals exact absurd q.1 (by omega)
 have hs:=hm.sl;unfold a2F;cases hp:H6 n.Acc m.a8 with
 | none =>
  have:=d34 hp hb;refine ⟨h,rfl,fun x hx => ?_⟩;rw [e8J.1 hx];exact a8R hm (.refuse (by have:=h.pr;omega)) (by simp)
 | some a =>
  have hn:=(h.promise hp).yield m.a8;obtain ⟨rfl,_⟩:=a5m hp;refine ⟨hn,?_,fun x hx => ?_⟩
  ·simp only [N2];cases n.d9 != 0&&decide (m.a8>n.a8)<;>rfl
  ·rw [e8J.1 hx];have hvl:=h.vl;refine a8R hm (.inr (.inl ⟨rfl,hb,rfl,⟨by simp;omega,fun v hv=>(h.vs v (e9i hv)).1⟩,by simp;omega⟩)) hs
theorem a5A(n:j5)(b:Int):(N2 n b).Id=n.Id:=by
 unfold N2;cases n.d9 != 0&&decide (b>n.a8)<;>rfl
theorem e5J{a:v6}{b:Int}{k:Nat}{e:m4}(h:M5 a b (k:Int) e=none)(hk:k<40)(he:x9 e=true)(hb:1<=b/\b<=3000):b<a.i4:=by
 by_cases q:a.i4<=b
 ·rw [d9R hk he hb.1 hb.2 q] at h;cases h
 ·omega
theorem e1P{n:j5}(h:NI n){m:j7}(hm:MI m)(hk:m.a7=3):P4 n (a3h n m):=by
 have hb:(1<=m.a8/\m.a8<=3000)/\m.g7<40/\x9 m.i0=true:=by
  rcases hm.kd with q|q|q|q|q|q|q
  ·omega
  ·omega
  ·exact ⟨q.2.1,q.2.2.1,q.2.2.2.1⟩
  all_goals exact absurd q.1 (by omega)
 have hs:=hm.sl;obtain ⟨k,hsk⟩:∃k:Nat,m.g7=(k:Int):=⟨m.g7.toNat,by omega⟩
 unfold a3h;cases hp:M5 n.Acc m.a8 m.g7 m.i0 with
 | none =>
  rw [hsk] at hp;have:=e5J hp (by omega) hb.2.2 hb.1;refine ⟨h,rfl,fun x hx => ?_⟩;rw [e8J.1 hx];exact a8R hm (.refuse (by have:=h.pr;omega)) (by simp)
 | some a =>
  refine ⟨(h.cast hp).yield m.a8,a5A _ _,fun x hx => ?_⟩;rw [e8J.1 hx];exact a8R hm (.one (.inr rfl) hb.1) hs
theorem c6Y{n:j5}(h:NI n){m:j7}(hm:MI m)(hk:m.a7=2):P4 n (a2T n m):=by
 have hkd:(m.a5.length<=40/\∀v∈m.a5,VI v)/\m.g7+m.a5.length<=40:=by
  rcases hm.kd with q|q|q|q|q|q|q
  ·omega
  ·exact ⟨q.2.2.2.1,q.2.2.2.2⟩
  all_goals exact absurd q.1 (by omega)
 have hs:=hm.sl;have hf:=hm.fr;unfold a2T;cases hc:n.d9 != 1||m.a8 != n.a8
 ·simp only [e9T,bne_eq_false_iff_eq] at hc;simp only [cond_false];have hl:Own n/\n.d7.length=3/\n.d7[n.Id.toNat]?=some true/\n.c8=zE/\n.a5=[]:=by
   rcases h.ld with q|q|q|q
   ·omega
   ·exact q.2
   all_goals exact absurd q.1 (by omega)
  have hbl:=a9D n.g9 (e8E m.g7.toNat v0++m.a5);have hob:=hl.1.bl;have hlen:(e8E m.g7.toNat v0++m.a5).length<=40:=by simp;omega
  have hbs:∀v∈D6 n.g9 (e8E m.g7.toNat v0++m.a5),VI v:=fun v hv=>(b0X hv).elim (fun q=>hl.1.bs v q) (fun q=>(List.mem_append.1 q).elim (fun q=>by rw [(e9f.1 q).2];exact .inl rfl) (hkd.1.2 v))
  cases N0 (n.d7.set m.d7.toNat true)
  ·simp only [cond_false];refine ⟨⟨h.id,h.pr,h.vl,h.vs,h.kl,h.ks,h.sq,h.ql,h.qs,.inr (.inl ⟨hc.1,⟨hl.1.b1,hl.1.b2,hl.1.mod,hl.1.pr,by show (D6 _ _).length<=40;omega,hbs⟩,by simp [hl.2.1],?_,hl.2.2.2.1,hl.2.2.2.2⟩),h.wt⟩,rfl,by simp⟩;show (n.d7.set m.d7.toNat true)[n.Id.toNat]?=some true
   by_cases q:m.d7.toNat=n.Id.toNat
   ·rw [q,e9v (by have:=h.id;omega)]
   ·rw [e8U q];exact hl.2.2.1
  ·simp only [cond_true];refine P4.to (n:=n) (n':={n with d7:=[],g9:=D6 n.g9 (e8E m.g7.toNat v0++m.a5),d9:=2}) rfl (b0U ?_);exact ⟨h.id,h.pr,h.vl,h.vs,h.kl,h.ks,h.sq,h.ql,h.qs,.inr (.inr (.inl ⟨rfl,⟨hl.1.b1,hl.1.b2,hl.1.mod,hl.1.pr,by show (D6 _ _).length<=40;omega,hbs⟩,rfl,hl.2.2.2.1,hl.2.2.2.2⟩)),h.wt⟩
 ·exact .same h
theorem d3S{n:j5}(h:NI n){m:j7}(hm:MI m):a48 n (a4g n m):=by
 have hf:=hm.fr;unfold a4g;cases hc:n.d9 != 3||(m.a8 != n.a8||m.g7 != (n.a6.length:Int))
 ·simp only [e9T,bne_eq_false_iff_eq] at hc;simp only [cond_false];have hl:Own n/\n.d7=[]/\x9 n.c8=true/\n.a5.length=3/\n.a5[n.Id.toNat]?=some true/\n.a6.length<40:=by
   rcases h.ld with q|q|q|q
   ·omega
   ·omega
   ·omega
   ·exact q.2
  have hn:NI {n with a5:=n.a5.set m.d7.toNat true}:=by
   refine ⟨h.id,h.pr,h.vl,h.vs,h.kl,h.ks,h.sq,h.ql,h.qs,.inr (.inr (.inr ⟨hc.1,⟨hl.1.b1,hl.1.b2,hl.1.mod,hl.1.pr,hl.1.bl,hl.1.bs⟩,hl.2.1,hl.2.2.1,by simp [hl.2.2.2.1],?_,hl.2.2.2.2.2⟩)),h.wt⟩;show (n.a5.set m.d7.toNat true)[n.Id.toNat]?=some true
   by_cases q:m.d7.toNat=n.Id.toNat
   ·rw [q,e9v (by have:=h.id;omega)]
   ·rw [e8U q];exact hl.2.2.2.2.1
  cases N0 (n.a5.set m.d7.toNat true)
  ·exact ⟨hn,rfl,by simp,by simp⟩
  ·simp only [cond_true];have hr:=c4N hn hl.2.2.1 hl.2.2.2.2.2;refine ⟨hr.ni,hr.id,fun x hx => ?_,hr.ts⟩;rcases List.mem_append.1 hx with q|q
   ·exact a51 h.id (.chosen (by omega) hl.2.2.1) (by simp only;omega) x q
   ·exact hr.ms x q
 ·exact .same h
theorem e5o{n:j5}(h:NI n){m:j7}(hm:MI m)(hk:m.a7=5):a48 n (a4r n m):=by
 have hkd:m.g7<40/\x9 m.i0=true:=by
  rcases hm.kd with q|q|q|q|q|q|q
  ·omega
  ·omega
  ·omega
  ·exact ⟨q.2.2.1,q.2.2.2.1⟩
  all_goals exact absurd q.1 (by omega)
 have hkl:=h.kl;unfold a4r;cases h1:decide (m.g7<(n.a6.length:Int))
 ·cases h2:decide (m.g7>(n.a6.length:Int))
  ·simp only [decide_eq_false_iff_not] at h1 h2;exact c4N h hkd.2 (by omega)
  ·refine ⟨h,rfl,fun x hx => ?_,by simp⟩;rw [e8J.1 hx];exact a8R hm .need (by simp only;omega)
 ·exact .same h
theorem e0f{n:j5}(h:NI n){m:j7}(hm:MI m)(hk:m.a7=7):P4 n (a27 n m):=by
 have hkd:x9 m.i0=true/\m.i0.i8=false:=by
  rcases hm.kd with q|q|q|q|q|q|q
  ·omega
  ·omega
  ·omega
  ·omega
  ·omega
  ·exact ⟨q.2.2.2.1,q.2.2.2.2.1⟩
  ·omega
 unfold a27;cases hc:n.d9==0||(decide (4<=n.d8.length)||L5 n.a6 m.i0.a0)
 ·simp only [cond_false];simp only [e9T,decide_eq_false_iff_not] at hc;refine P4.to (n:=n) (n':={n with d8:=n.d8++[m.i0]}) rfl (b0U (h.queue (by simp;omega) ?_));intro e he;rcases List.mem_append.1 he with q|q
  ·exact h.qs e q
  ·rw [e8J.1 q];exact hkd
 ·exact .same h
theorem d8C{n:j5}(h:NI n){m:j7}(hm:MI m):∀x∈a4D n m,MI x:=by
 intro x hx;unfold a4D at hx;obtain ⟨l,hl,hx⟩:=e9m.1 hx;obtain ⟨j,hj,rfl⟩:=List.mem_map.1 hl;have hkl:=h.kl;unfold a01 at hx;cases hg:n.a6[m.g7.toNat+j]? with
 | none=>rw [hg] at hx;cases hx
 | some e =>
  rw [hg] at hx;have hlt:=(e8I.1 hg).1;rw [e8J.1 hx];exact a8R hm (.chosen (by omega) (h.ks e (e8P hg))) (by simp only;omega)
theorem b3G{n:j5}(h:NI n){m:j7}(hm:MI m):a48 n (Y2 n m):=by
 unfold Y2;by_cases k1:m.a7=1
 ·rw [show (m.a7==1)=true by simpa using k1];exact (e3j h hm k1).three
 rw [show (m.a7==1)=false by simpa using k1];by_cases k2:m.a7=2
 ·rw [show (m.a7==2)=true by simpa using k2];exact (c6Y h hm k2).three
 rw [show (m.a7==2)=false by simpa using k2];by_cases k3:m.a7=3
 ·rw [show (m.a7==3)=true by simpa using k3];exact (e1P h hm k3).three
 rw [show (m.a7==3)=false by simpa using k3];by_cases k4:m.a7=4
 ·rw [show (m.a7==4)=true by simpa using k4];exact d3S h hm
 rw [show (m.a7==4)=false by simpa using k4];by_cases k5:m.a7=5
 ·rw [show (m.a7==5)=true by simpa using k5];exact e5o h hm k5
 rw [show (m.a7==5)=false by simpa using k5];by_cases k6:m.a7=6
 ·rw [show (m.a7==6)=true by simpa using k6];simp only [cond_true,cond_false];cases hp:H6 n.Acc m.a8 with
  | none=>exact ⟨h.yield _,a5A _ _,by simp,by simp⟩
  | some a=>exact ⟨(h.promise hp).yield _,a5A _ _,by simp,by simp⟩
 rw [show (m.a7==6)=false by simpa using k6];by_cases k7:m.a7=7
 ·rw [show (m.a7==7)=true by simpa using k7];exact (e0f h hm k7).three
 rw [show (m.a7==7)=false by simpa using k7];cases m.a7==8
 ·exact .same h
 ·exact ⟨h,rfl,d8C h hm,by simp⟩
structure e5R(n x:j5):Prop where
 id:x.Id=n.Id
 known:x.a6=n.a6
 seq:x.Seq=n.Seq
 busy:x.i7=n.i7
 prog:x.i5=n.i5
 want:x.b6=n.b6
theorem b5W(n:j5):e5R n (M4 n).1:=by
 unfold M4;cases n.d9 != 2||decide (40<=n.a6.length)
 ·simp only [cond_false];obtain ⟨q,hq,_⟩:=b0W n;cases hx:a0H n with
  | mk x o =>
  rw [hx] at hq;have hq:x={n with d8:=q}:=hq;subst hq;cases o with
  | none=>exact ⟨rfl,rfl,rfl,rfl,rfl,rfl⟩
  | some e =>
   simp only [a6M];cases M5 n.Acc n.a8 (n.a6.length:Int) e<;>exact ⟨rfl,rfl,rfl,rfl,rfl,rfl⟩
 ·exact ⟨rfl,rfl,rfl,rfl,rfl,rfl⟩
def a1w(n:j5):List q8:=(z5 n.a6).1.g8
theorem b39{n:j5}(h:NI n):F4 (a1w n)=true:=by
 obtain ⟨a,b⟩:=a6k h.list;have:=(a3C a b n.a6.length (e9h _)).1.boxes;rwa [e85] at this
theorem e20{n:j5}(h:NI n):b5q n=some (z5 n.a6).1:=by
 unfold b5q;rw [a8o h.ok,e8C,a0w.2 h];simp only [e8H,cond_false];rw [e1s (okEntries.f h.ok.2.2.1) h.list];rfl
theorem d70{l:List q8}{p:List o8}(h:(E5 l p).Code≠3):C7 p=true:=by
 unfold E5 at h;cases hp:C7 p
 ·rw [hp,Bool.and_false] at h;exact absurd rfl h
 ·rfl
def N7(n:j5)(prog:List o8):j5:={n with Seq:=n.Seq+1,i7:=true,i5:=prog,b6:=⟨false,⟨n.Id,n.Seq+1⟩,E5 (a1w n) prog⟩}
def K8(n:j5)(prog:List o8):Bool := !(n.i7||(n.Seq==1000||(E5 (a1w n) prog).Code==3))
theorem c2F{n:j5}{prog:List o8}:K8 n prog=true↔n.i7=false/\n.Seq≠1000/\(E5 (a1w n) prog).Code≠3:=by
 unfold K8;simp
theorem b5Q{n:j5}(h:NI n){prog:List o8}(hp:t6 prog)(hc:K8 n prog=true):x9 (N7 n prog).b6=true/\C7 prog=true:=by
 obtain ⟨h1,h2,h3⟩:=c2F.1 hc;have hr:=(e03 (b39 h) hp).ok;have hs:=h.sq;have hid:=h.id;refine ⟨?_,d70 h3⟩;unfold x9 N7;simp only [cond_false,e8G,J1,hr,true_and,bne_iff_ne,ne_eq];exact ⟨⟨hid,by omega⟩,h3⟩
theorem NI.asked{n:j5}(h:NI n){prog:List o8}(hp:t6 prog)(hc:K8 n prog=true):NI (N7 n prog):=by
 obtain ⟨h1,h2,h3⟩:=c2F.1 hc;obtain ⟨h4,h5⟩:=b5Q h hp hc;have hs:=h.sq;exact ⟨h.id,h.pr,h.vl,h.vs,h.kl,h.ks,by show 0<=n.Seq+1/\n.Seq+1<=1000;omega,h.ql,h.qs,h.ld,.inl ⟨rfl,h5,h4,rfl,rfl⟩⟩
theorem a2w(n:j5)(prog:List o8):M9 n prog=bif K8 n prog then (bif n.d9==2 then M4 (N7 n prog) else (N7 n prog,bif n.d9==0 then I9 n.Id ⟨7,0,0,0,0,(N7 n prog).b6,[]⟩ else [])) else (n,[]):=by
 unfold M9 K8 N7 a1w;cases n.i7||(n.Seq==1000||(E5 (z5 n.a6).1.g8 prog).Code==3)<;>rfl
theorem e1u{n:j5}(h:NI n){prog:List o8}(hp:z7 32 okT prog):b4F n prog=some ((M9 n prog).1,(M9 n prog).2,[]):=by
 have hf:t6 prog:=hp.fits (by decide);have hs:=h.sq;unfold b4F;rw [a8o h.ok,e8C,a0w.2 h,b15 h.ok,e20 h,a2w];simp only [e8H,cond_false,e8C];rw [show (z5 n.a6).1.g8=a1w n from rfl,c7b (a4J (b39 h)) hf,e8C];cases hb:n.i7
 ·cases hq:n.Seq==1000
  ·cases hc:(E5 (a1w n) prog).Code==3
   ·have hca:K8 n prog=true:=by unfold K8;rw [hb,hq,hc];rfl
    have hn:=h.asked hf hca;rw [hca];simp only [cond_true,cond_false];rw [t5 (by have:=hp.1;simp;omega),B6 (by omega) (by omega)];cases h2:n.d9==2
    ·cases h0:n.d9==0
     ·rfl
     ·simp only [cond_false,cond_true];rw [a5P h.id (show X9 ⟨7,0,0,0,0,⟨false,⟨n.Id,n.Seq+1⟩,E5 (a1w n) prog⟩,[]⟩ from a6q (z4 (by omega)) Y6 Y6 (a2a (b5Q h hf hca).1) Q9)];rfl
    ·simp only [cond_true];rw [show (⟨n.Id,n.Acc,n.a6,n.Seq+1,n.d9,n.a8,n.d7,n.g9,n.c8,n.a5,true,[]++prog,⟨false,⟨n.Id,n.Seq+1⟩,E5 (a1w n) prog⟩,n.d8⟩:j5)=N7 n prog from rfl,b05 hn.ok hn.id,e8C]
   ·have hca:K8 n prog=false:=by unfold K8;rw [hb,hq,hc];rfl
    rw [hca];rfl
  ·have hca:K8 n prog=false:=by unfold K8;rw [hb,hq];rfl
   rw [hca];rfl
 ·have hca:K8 n prog=false:=by unfold K8;rw [hb];rfl
  rw [hca];rfl
theorem b5X{n:j5}(h:NI n){prog:List o8}(hp:t6 prog):P4 n (M9 n prog):=by
 rw [a2w];cases hc:K8 n prog
 ·exact .same h
 ·have hn:=h.asked hp hc;simp only [cond_true];cases n.d9==2
  ·refine ⟨hn,rfl,fun x hx => ?_⟩;simp only [cond_false] at hx;cases h0:n.d9==0
   ·rw [h0] at hx;cases hx
   ·rw [h0] at hx;exact a51 h.id (.ask (b5Q h hp hc).1 rfl) (by simp) x hx
  ·exact P4.to (n:=n) (n':=N7 n prog) rfl (b0U hn)
theorem c0V{b who:Int}(hb:0<=b/\b<=3000)(hw:0<=who/\who<=2):L6 b who=-1\/(b<L6 b who/\L6 b who<=b+3/\L6 b who<=3000/\e81 (L6 b who) 3=who):=by
 unfold L6;cases h1:decide (b+1<=3000)&&(e81 (b+1) 3==who)
 ·cases h2:decide (b+2<=3000)&&(e81 (b+2) 3==who)
  ·cases h3:decide (b+3<=3000)&&(e81 (b+3) 3==who)
   ·exact .inl rfl
   ·simp only [e8G,decide_eq_true_eq,beq_iff_eq] at h3;exact .inr ⟨by simp only [cond_true,cond_false];omega,by simp only [cond_true,cond_false];omega,h3.1,h3.2⟩
  ·simp only [e8G,decide_eq_true_eq,beq_iff_eq] at h2;exact .inr ⟨by simp only [cond_true,cond_false];omega,by simp only [cond_true,cond_false];omega,h2.1,h2.2⟩
 ·simp only [e8G,decide_eq_true_eq,beq_iff_eq] at h1;exact .inr ⟨by simp only [cond_true,cond_false];omega,by simp only [cond_true,cond_false];omega,h1.1,h1.2⟩
theorem d95{n:j5}(h:NI n):b5o n=some (a0j n):=by
 unfold b5o a0j;rw [a8o h.ok,e8C,a0w.2 h,b15 h.ok];simp only [e8H,cond_false,e8C];rw [e8f h.pr h.id,e8C];cases hd:decide (L6 n.Acc.i4 n.Id<0)
 ·simp only [decide_eq_false_iff_not] at hd;rcases c0V h.pr h.id with q|⟨q1,q2,q3,q4⟩
  ·omega
  ·have hpr:=h.pr;have hkl:=h.kl;obtain ⟨y,hy⟩:=c1C h.id;simp only [cond_false,b03,e8C,b5l,b7N (a:=n.Acc) (show 1<=L6 n.Acc.i4 n.Id by omega) q3 (by omega),hy,e1f h.ok.2.1.2];rw [t5 (by omega),t5 trivial,a5P h.id (a6q (z4 (by omega)) (z4 (by omega)) (z4 (by omega)) a0A Q9)];rfl
 ·rfl
theorem b5w{n:j5}(h:NI n):P4 n (a0j n):=by
 unfold a0j;cases hd:decide (L6 n.Acc.i4 n.Id<0)
 ·simp only [decide_eq_false_iff_not] at hd;have hpr:=h.pr;have hkl:=h.kl;rcases c0V h.pr h.id with q|⟨q1,q2,q3,q4⟩
  ·omega
  ·obtain ⟨m1,m2⟩:=c1j h.id;refine ⟨⟨h.id,⟨by simp only [cond_false];omega,q3⟩,h.vl,fun v hv=>⟨(h.vs v hv).1,Int.le_trans (h.vs v hv).2 (Int.le_of_lt q1)⟩,h.kl,h.ks,h.sq,h.ql,h.qs,.inr (.inl ⟨rfl,⟨by simp only [cond_false];omega,q3,q4,Int.le_refl _,h.vl,fun v hv=>(h.vs v hv).1⟩,m1,m2,rfl,rfl⟩),h.wt⟩,rfl,?_⟩;exact a51 h.id (.one (.inl rfl) ⟨by omega,q3⟩) (by simp only;omega)
 ·exact .same h
theorem d0K{k b s:Int}(hk:0<=k/\k<=8)(hb:0<=b/\b<=3000)(hs:0<=s/\s<=40):X9 ⟨k,0,0,b,s,zE,[]⟩:=a6q (z4 (by omega)) (z4 (by omega)) (z4 (by omega)) a0A Q9
theorem d6d{n:j5}(h:NI n):b4Y n=some ((V5 n).1,(V5 n).2,[]):=by
 have hkl:=h.kl;have hb:=h.ld.bal;have l1:=Z8 n.Id ⟨8,0,0,0,(n.a6.length:Int),zE,[]⟩;unfold b4Y V5;rw [a8o h.ok,e8C,a0w.2 h,b15 h.ok];simp only [e8H,cond_false,e8C];rw [a5P h.id (d0K (by omega) (by omega) (by omega)),e8C];cases h1:n.d9==1
 ·cases h2:n.d9==2
  ·cases h3:n.d9==3
   ·cases hbz:n.i7
    ·rfl
    ·simp only [cond_true,cond_false];have l2:=Z8 n.Id ⟨7,0,0,0,0,n.b6,[]⟩;have hw:D7 n.b6:=h.ok.2.2.2.2.2.2.2.2.2.2.2.1;rw [a5P h.id (a6q (z4 (by omega)) Y6 Y6 hw Q9),e8C,t5 (by omega)];rfl
   ·simp only [cond_true,cond_false];have l2:=Z8 n.Id ⟨3,0,0,n.a8,(n.a6.length:Int),n.c8,[]⟩;rw [a5P h.id (a6q (z4 (by omega)) (z4 (by omega)) (z4 (by omega)) h.ld.from3.2.2 Q9),e8C,t5 (by omega)];rfl
  ·simp only [cond_true,cond_false];have l2:=a6S n;rw [b05 h.ok h.id,e8C,t5 (by omega)];rfl
 ·simp only [cond_true,cond_false];have l2:=Z8 n.Id ⟨1,0,0,n.a8,(n.a6.length:Int),zE,[]⟩;rw [a5P h.id (d0K (by omega) (by omega) (by omega)),e8C,t5 (by omega)];rfl
theorem b7Y{n:j5}(h:NI n):P4 n (V5 n):=by
 have hkl:=h.kl;have hb:=h.ld.bal;have a1:∀x∈I9 n.Id ⟨8,0,0,0,(n.a6.length:Int),zE,[]⟩,MI x:=a51 h.id .need (by simp only;omega)
 have N0:∀{l:List j7},(∀x∈l,MI x)->∀x∈I9 n.Id ⟨8,0,0,0,(n.a6.length:Int),zE,[]⟩++l,MI x:=by
  intro l hl x hx;rcases List.mem_append.1 hx with q|q
  ·exact a1 x q
  ·exact hl x q
 unfold V5;by_cases h1:n.d9=1
 ·rw [show (n.d9==1)=true by simpa using h1];refine ⟨h,rfl,N0 (a51 h.id (.one (.inl rfl) ?_) (by simp only;omega))⟩;rcases h.ld with q|q|q|q
  ·omega
  ·exact ⟨q.2.1.b1,q.2.1.b2⟩
  all_goals exact absurd q.1 (by omega)
 rw [show (n.d9==1)=false by simpa using h1];by_cases h2:n.d9=2
 ·rw [show (n.d9==2)=true by simpa using h2];have:=b0U h;exact ⟨this.ni,this.id,N0 this.ms⟩
 rw [show (n.d9==2)=false by simpa using h2];by_cases h3:n.d9=3
 ·rw [show (n.d9==3)=true by simpa using h3];rcases h.ld with q|q|q|q
  ·omega
  ·omega
  ·omega
  ·exact ⟨h,rfl,N0 (a51 h.id (.accept ⟨q.2.1.b1,q.2.1.b2⟩ (by omega) q.2.2.2.1) (by simp only;omega))⟩
 rw [show (n.d9==3)=false by simpa using h3];cases hbz:n.i7
 ·exact ⟨h,rfl,a1⟩
 ·rcases h.wt with q|q
  ·exact ⟨h,rfl,N0 (a51 h.id (.ask q.2.2.1 q.2.2.2.1) (by simp))⟩
  ·rw [hbz] at q;cases q.1
theorem d6R{n:j5}(h:NI n):b4M n=some (a0T n):=by
 unfold b4M;rw [a8o h.ok,e8C,a0w.2 h,b15 h.ok];rfl
theorem NI.open{id:Int}(h:0<=id/\id<=2):NI (C4 id) :=
 ⟨h,⟨by simp [C4],by simp [C4]⟩,by simp [C4],by simp [C4],by simp [C4],by simp [C4],⟨by simp [C4],by simp [C4]⟩,by simp [C4],by simp [C4],.inl ⟨rfl,rfl,rfl,rfl,rfl,rfl⟩,.inr ⟨rfl,rfl,rfl⟩⟩
theorem NI.fall{n:j5}(h:NI n):NI (a0T n) :=
 ⟨h.id,h.pr,h.vl,h.vs,h.kl,h.ks,h.sq,by simp [a0T,C4],by simp [a0T,C4],.inl ⟨rfl,rfl,rfl,rfl,rfl,rfl⟩,.inr ⟨rfl,rfl,rfl⟩⟩
theorem c8Y{l:List j7}(hl:t6 l)(ho:∀m∈l,X9 m):∀(d k:Nat) (net:List j7),l.length-k=d->o9 (fun s:(List j7)×Int=>a2r l s.1 s.2) (net,(k:Int))=some (.brk (net++(l.drop k).take (40-net.length)))
 | 0,k,net,hd=>by
  rw [e8S (by omega)];refine (C2 (b:=net) ?_).trans (by simp);show a2r l net (k:Int)=_
  unfold a2r;rw [show decide ((k:Int)<(l.length:Int))=false by simp;omega];rfl
 | d+1,k,net,hd=>by
  have hlt:k<l.length:=by omega
  by_cases hn:net.length<40
  ·have hb:a2r l net (k:Int)=some (.nxt (net++[l[k]],((k+1:Nat):Int))):=by
    unfold a2r;rw [w8 _ k hlt,show decide ((net.length:Int)<40)=true by simp;omega,cond_true,cond_true,u0 hlt,e8C,b7r (ho _ (e8F hlt)),e8C,t5 (by omega),F3 hl hlt]
   rw [C9 (body:=fun s:(List j7)×Int=>a2r l s.1 s.2) (s:=(net,(k:Int))) hb,c8Y hl ho d (k+1) _ (by omega),e8X hlt];rw [show 40-net.length=(40-(net++[l[k]]).length)+1 by simp;omega,e9X,e8R];rfl
  ·refine (C2 (b:=net) ?_).trans (by rw [show 40-net.length=0 by omega];simp);show a2r l net (k:Int)=_
   unfold a2r;rw [w8 _ k hlt,show decide ((net.length:Int)<40)=false by simp;omega];rfl
theorem a5U(w:m5){l:List j7}(hl:t6 l)(ho:∀m∈l,X9 m):a2j w l=some (a0a w l):=by
 unfold a2j;rw [show o9 (fun s:(List j7)×Int=>a2r l s.1 s.2) (w.b9,0)=_ from c8Y hl ho l.length 0 w.b9 rfl];rfl
theorem d2f{l:List m8}(hl:t6 l):∀(d k:Nat) (o:List m8),l.length-k=d->o9 (fun s:(List m8)×Int=>a12 l s.1 s.2) (o,(k:Int))=some (.brk (o++(l.drop k).take (60-o.length)))
 | 0,k,o,hd=>by
  rw [e8S (by omega)];refine (C2 (b:=o) ?_).trans (by simp);show a12 l o (k:Int)=_
  unfold a12;rw [show decide ((k:Int)<(l.length:Int))=false by simp;omega];rfl
 | d+1,k,o,hd=>by
  have hlt:k<l.length:=by omega
  by_cases hn:o.length<60
  ·have hb:a12 l o (k:Int)=some (.nxt (o++[l[k]],((k+1:Nat):Int))):=by
    unfold a12;rw [w8 _ k hlt,show decide ((o.length:Int)<60)=true by simp;omega,cond_true,cond_true,u0 hlt,e8C,t5 (by omega),F3 hl hlt]
   rw [C9 (body:=fun s:(List m8)×Int=>a12 l s.1 s.2) (s:=(o,(k:Int))) hb,d2f hl d (k+1) _ (by omega),e8X hlt];rw [show 60-o.length=(60-(o++[l[k]]).length)+1 by simp;omega,e9X,e8R];rfl
  ·refine (C2 (b:=o) ?_).trans (by rw [show 60-o.length=0 by omega];simp);show a12 l o (k:Int)=_
   unfold a12;rw [w8 _ k hlt,show decide ((o.length:Int)<60)=false by simp;omega];rfl
theorem a70(w:m5){l:List m8}(hl:t6 l):a3p w l=some (a6m w l):=by
 unfold a3p;rw [show o9 (fun s:(List m8)×Int=>a12 l s.1 s.2) (w.Told,0)=_ from d2f hl l.length 0 w.Told rfl];rfl
theorem a1Z(w:m5):a6m w []=w:=by
 unfold a6m;simp
theorem b8j(w:m5):a0a w []=w:=by
 unfold a0a;simp
theorem d8w{w:m5}{k:Nat}(hk:k<w.b9.length)(hl:w.b9.length<=40):b2M w (k:Int)=some (a3i w (k:Int)):=by
 unfold b2M a3i;rw [t5 (by omega),t5 (by simp;omega),B6 (by omega) (by omega),t5 (by omega),t5 (by simp;omega)];simp only [e9g,e9M,e9F,Nat.sub_zero,e82,e9k,show ((k:Int)+1).toNat=k+1 by omega];rw [e86 (l:=w.b9.drop (k+1)) (by simp)]
theorem a7f{w:m5}(h:WI w){i:Nat}(hi:i<3):∃n,w.a9[i]?=some n/\K5 w (i:Int)=n/\n.Id=(i:Int)/\NI n/\i<w.a9.length:=by
 have hl:=h.nl;have hg:=e8D (l:=w.a9) (i:=i) (by omega);obtain ⟨h1,h2⟩:=h.ns i _ hg;refine ⟨_,hg,?_,h1,h2,by omega⟩;unfold K5;rw [e82,e8Q,hg];rfl
theorem WI.put{w:m5}(h:WI w){i:Nat}{n:j5}(hid:n.Id=(i:Int))(hn:NI n):WI (R3 w (i:Int) n):=by
 refine ⟨by simp [R3,h.nl],?_,h.ml,h.ms,h.al,h.aq,h.tl,h.ts⟩;intro j m hm;simp only [R3,e82] at hm;by_cases q:i=j
 ·subst q;have hlt:=(e8I.1 hm).1;rw [e9N] at hlt;rw [e9v hlt] at hm;injection hm with hm;subst hm;exact ⟨hid,hn⟩
 ·rw [e8U q] at hm;exact h.ns j m hm
theorem WI.send{w:m5}(h:WI w){l:List j7}(hl:∀m∈l,MI m):WI (a0a w l):=by
 have:=h.ml;refine ⟨h.nl,h.ns,by simp only [a0a,e8O,e83];omega,?_,h.al,h.aq,h.tl,h.ts⟩;intro m hm;rcases List.mem_append.1 hm with q|q
 ·exact h.ms m q
 ·exact hl m (e9j q)
theorem WI.tell{w:m5}(h:WI w){l:List m8}(hl:∀t∈l,Q4 t=true):WI (a6m w l):=by
 have:=h.tl;refine ⟨h.nl,h.ns,h.ml,h.ms,h.al,h.aq,by simp only [a6m,e8O,e83];omega,?_⟩;intro m hm;rcases List.mem_append.1 hm with q|q
 ·exact h.ts m q
 ·exact hl m (e9j q)
theorem WI.off{w:m5}(h:WI w)(i:Int):WI (a3i w i):=by
 have:=h.ml;refine ⟨h.nl,h.ns,by simp only [a3i,e8O,e83,List.length_drop];omega,?_,h.al,h.aq,h.tl,h.ts⟩;intro m hm;rcases List.mem_append.1 hm with q|q
 ·exact h.ms m (e9j q)
 ·exact h.ms m (e9i q)
theorem a9K{l:List j7}(h:l.length<=100):t6 l:=by unfold t6;omega
theorem b86(n:j5)(p:List o8):(M9 n p).2.length<=3:=by
 rw [a2w];cases K8 n p
 ·simp
 ·cases n.d9==2
  ·cases n.d9==0
   ·simp
   ·exact Z8 _ _
  ·exact a6S _
theorem MI.okl{l:List j7}(h:∀m∈l,MI m):∀m∈l,X9 m:=fun m hm=>(h m hm).ok
theorem d2y(n:j5)(p:List o8):decide ((M9 n p).1.Seq>n.Seq)=K8 n p:=by
 rw [a2w];cases K8 n p
 ·simp
 ·simp only [cond_true];cases n.d9==2
  ·simp [N7];omega
  ·have:=(b5W (N7 n p)).seq;simp only [cond_true,this];simp [N7];omega
theorem c1z{n:j5}{p:List o8}(h:K8 n p=true):(M9 n p).1.b6=(N7 n p).b6:=by
 rw [a2w,h];simp only [cond_true];cases n.d9==2
 ·rfl
 ·exact (b5W (N7 n p)).want
def e1Q(w:m5)(a:u5):m5:={w with c9:=w.c9++[a]}
theorem WI.addAsked{w:m5}(h:WI w){a:u5}(hl:w.c9.length<60)(ha:X5 a=true):WI (e1Q w a):=by
 refine ⟨h.nl,h.ns,h.ml,h.ms,by simp only [e1Q,e8O,e9z];omega,?_,h.tl,h.ts⟩;intro x hx;rcases List.mem_append.1 hx with q|q
 ·exact h.aq x q
 ·rw [e8J.1 q];exact ha
theorem d6D{w:m5}(h:WI w){i:Nat}(hi:i<3){p:List o8}(hp:z7 32 okT p):b3A w (i:Int) p=some (a7H w (i:Int) p)/\WI (a7H w (i:Int) p):=by
 obtain ⟨n,hg,hn,hid,hni,hlt⟩:=a7f h hi;have hf:t6 p:=hp.fits (by decide);have hr:=b5X hni hf;have hln:=b86 n p;have hms:=MI.okl hr.ms;have hal:=h.al;unfold b3A a7H;rw [hn,show decide ((w.c9.length:Int)>=60)=decide (60<=w.c9.length) by simp;omega,a6p,hg,e8C,e1u hni hp,e8C];cases hd:decide (60<=w.c9.length)
 ·simp only [cond_false];simp only [decide_eq_false_iff_not] at hd;rw [d2y];cases hc:K8 n p
  ·simp only [cond_false];rw [a5U _ (a9K (by omega)) hms,e8C,a70 _ (by simp [t6]),a1Z];exact ⟨rfl,(h.put (hr.id.trans hid) hr.ni).send hr.ms⟩
  ·simp only [cond_true];rw [t5 (by have:=hp.1;simp;omega),t5 (by omega),a5U _ (a9K (by omega)) hms,e8C,a70 _ (by simp [t6]),a1Z];refine ⟨rfl,WI.send (w:=R3 (e1Q w ⟨(M9 n p).1.b6.a0,p⟩) (i:Int) (M9 n p).1) (WI.put (w:=e1Q w ⟨(M9 n p).1.b6.a0,p⟩) (h.addAsked (by omega) ?_) (hr.id.trans hid) hr.ni) hr.ms⟩;rw [c1z hc];obtain ⟨w1,w2⟩:=b5Q hni hf hc;obtain ⟨c1,c2,c3⟩:=c2F.1 hc;unfold X5;have:=hni.id;have:=hni.sq;simp only [e8G,J1,w2,and_true];show (0<=n.Id/\n.Id<=2)/\1<=n.Seq+1/\n.Seq+1<=1000
   omega
 ·exact ⟨rfl,h⟩
theorem b54{n:j5}(h:NI n)(m:j7):(Y2 n m).2.1.length<=60/\(Y2 n m).2.2.length<=1:=by
 have hkl:=h.kl;have al:∀n:j5,(T1 n).2.length<=1:=fun n=>by
  rcases b0Z n with q|⟨k,_,_,q⟩<;>rw [q]<;>simp
 have ll:∀(n:j5) (e:m4),(X8 n e).2.1.length<=3/\(X8 n e).2.2.length<=1:=fun n e=>⟨a6S _,al _⟩
 have nl:(a4D n m).length<=40:=by
  unfold a4D;have:∀d k:Nat,((e8M d).map fun j=>a01 n m (k+j)).flatten.length<=d:=by
   intro d k;rw [List.length_flatten,e97];have hs:∀(l:List Nat),((l.map (List.length ∘ fun j=>a01 n m (k+j))).sum)<=l.length:=by
    intro l;induction l with
    | nil=>simp
    | cons x l ih =>
     simp only [e84,List.sum_cons,e9l,Function.comp];have:(a01 n m (k+x)).length<=1:=by
      unfold a01;cases n.a6[k+x]?<;>simp
     omega
   have:=hs (e8M d);rwa [List.length_range] at this
  have:=this (n.a6.length-m.g7.toNat) m.g7.toNat;omega
 unfold Y2;cases m.a7==1
 ·cases m.a7==2
  ·cases m.a7==3
   ·cases m.a7==4
    ·cases m.a7==5
     ·cases m.a7==6
      ·cases m.a7==7
       ·cases m.a7==8
        ·exact ⟨by simp,by simp⟩
        ·exact ⟨by simp only [cond_true,cond_false];omega,by simp⟩
       ·refine ⟨?_,by simp⟩;simp only [cond_true,cond_false,a27];cases n.d9==0||(decide (4<=n.d8.length)||L5 n.a6 m.i0.a0)
        ·exact Nat.le_trans (a6S _) (by omega)
        ·simp
      ·exact ⟨by simp,by simp⟩
     ·simp only [cond_true,cond_false,a4r];cases decide (m.g7<(n.a6.length:Int))
      ·cases decide (m.g7>(n.a6.length:Int))
       ·have:=ll n m.i0;exact ⟨by simp only [cond_false];omega,by simp only [cond_false];omega⟩
       ·exact ⟨by simp,by simp⟩
      ·exact ⟨by simp,by simp⟩
    ·simp only [cond_true,cond_false,a4g];cases n.d9 != 3||(m.a8 != n.a8||m.g7 != (n.a6.length:Int))
     ·cases N0 (n.a5.set m.d7.toNat true)
      ·exact ⟨by simp,by simp⟩
      ·have h1:=ll {n with a5:=n.a5.set m.d7.toNat true} n.c8;have h2:=Z8 n.Id ⟨5,0,0,0,(n.a6.length:Int),n.c8,[]⟩;exact ⟨by simp only [cond_true,cond_false,e8O];omega,by simp only [cond_true,cond_false];omega⟩
     ·exact ⟨by simp,by simp⟩
   ·refine ⟨?_,by simp⟩;simp only [cond_true,cond_false,a3h];cases M5 n.Acc m.a8 m.g7 m.i0<;>simp
  ·refine ⟨?_,by simp⟩;simp only [cond_true,cond_false,a2T];cases n.d9 != 1||m.a8 != n.a8
   ·cases N0 (n.d7.set m.d7.toNat true)
    ·simp
    ·exact Nat.le_trans (a6S _) (by omega)
   ·simp
 ·refine ⟨?_,by simp⟩;simp only [cond_true,a2F];cases H6 n.Acc m.a8<;>simp
theorem d4x{w:m5}(h:WI w)(e:p6):a8e w e=some (a17 w e)/\WI (a17 w e):=by
 have hml:=h.ml;unfold a8e a17;by_cases h0:e.A<0
 ·rw [show decide (e.A<0)=true by simpa using h0,show decide (0<=e.A)=false by simp;omega];exact ⟨rfl,h⟩
 ·obtain ⟨k,hk⟩:∃k:Nat,e.A=(k:Int):=⟨e.A.toNat,by omega⟩
  rw [hk,show decide ((k:Int)<0)=false by simp,show decide (0<=(k:Int))=true by simp,e82];simp only [cond_true,cond_false];by_cases hl:k<w.b9.length
  ·rw [show decide ((k:Int)>=(w.b9.length:Int))=false by simp;omega,u0 hl,e8D hl];have hm:=h.ms _ (e8F hl);generalize w.b9[k]=m at hm;simp only [cond_false,e8C,b7r hm.ok];cases e.a7==4
   ·simp only [cond_false];rw [d8w hl hml];cases e.a7==3
    ·simp only [cond_false,e8C];have ho:=h.off (k:Int);have ht:=hm.to;obtain ⟨t,htt⟩:∃t:Nat,m.To=(t:Int):=⟨m.To.toNat,by omega⟩
     obtain ⟨n,hg,hn,hid,hni,hlt⟩:=a7f ho (i:=t) (by omega);have hn':K5 w (t:Int)=n:=hn;have hr:=b3G hni hm;obtain ⟨l1,l2⟩:=b54 hni m;rw [htt,a6p,hg,e8C,e2H hni hm,e8C,hn'];rw [a5U _ (a9K (by omega)) (MI.okl hr.ms),e8C,a70 _ (by unfold t6;omega)];exact ⟨rfl,((ho.put (hr.id.trans hid) hr.ni).send hr.ms).tell hr.ts⟩
    ·exact ⟨rfl,h.off _⟩
   ·simp only [cond_true];have hs:∀x∈[m],MI x:=fun x hx=>by rw [e8J.1 hx];exact hm
    rw [a5U _ (a9K (by simp)) (MI.okl hs)];exact ⟨rfl,h.send hs⟩
  ·rw [show decide ((k:Int)>=(w.b9.length:Int))=true by simp;omega,e88 (by omega)];exact ⟨rfl,h⟩
def L3(e:p6):Prop:=z7 32 okT e.i5
theorem c0M(n:j5):(V5 n).2.length<=6:=by
 have l0:=Z8 n.Id ⟨8,0,0,0,(n.a6.length:Int),zE,[]⟩;unfold V5;cases n.d9==1
 ·cases n.d9==2
  ·cases n.d9==3
   ·cases n.i7
    ·simp only [cond_false];omega
    ·have:=Z8 n.Id ⟨7,0,0,0,0,n.b6,[]⟩;simp only [cond_true,cond_false,e8O];omega
   ·have:=Z8 n.Id ⟨3,0,0,n.a8,(n.a6.length:Int),n.c8,[]⟩;simp only [cond_true,cond_false,e8O];omega
  ·have:=a6S n;simp only [cond_true,cond_false,e8O];omega
 ·have:=Z8 n.Id ⟨1,0,0,n.a8,(n.a6.length:Int),zE,[]⟩;simp only [cond_true,e8O];omega
theorem b58(n:j5):(a0j n).2.length<=3:=by
 unfold a0j;cases decide (L6 n.Acc.i4 n.Id<0)
 ·exact Z8 _ _
 ·simp
theorem b8D{w:m5}{i:Nat}{n:j5}(h:w.a9[i]?=some n):R3 w (i:Int) n=w:=by
 unfold R3;rw [e82];obtain ⟨hi,rfl⟩:=e8I.1 h;rw [f0a]
theorem a63{w:m5}(h:WI w){e:p6}(he:L3 e):a79 w e=some (C6 w e)/\WI (C6 w e):=by
 obtain ⟨n1,n2⟩:=d4x h e;unfold a79 C6;rw [n1];cases e.a7==2
 ·cases e.a7==3
  ·cases e.a7==4
   ·simp only [cond_false,Bool.or_self];by_cases h0:e.A<0
    ·rw [show decide (e.A<0)=true by simpa using h0,show n9 e.A 0 2=false by unfold n9;simp;omega];exact ⟨rfl,h⟩
    ·by_cases h3:e.A>=3
     ·rw [show decide (e.A<0)=false by simpa using h0,show decide (e.A>=3)=true by simpa using h3,show n9 e.A 0 2=false by unfold n9;simp;omega];exact ⟨rfl,h⟩
     ·obtain ⟨i,hi⟩:∃i:Nat,e.A=(i:Int):=⟨e.A.toNat,by omega⟩
      rw [show decide (e.A<0)=false by simpa using h0,show decide (e.A>=3)=false by simpa using h3,show n9 e.A 0 2=true by unfold n9;simp;omega,hi];simp only [cond_false,e8H];obtain ⟨n,hg,hn,hid,hni,hlt⟩:=a7f h (i:=i) (by omega);rw [a6p,hg,e8C,hn];cases e.a7==1
      ·simp only [cond_false];cases e.a7==5
       ·simp only [cond_false];cases e.a7==6
        ·simp only [cond_false];cases e.a7==7
         ·simp only [cond_false];rw [a5U _ (by simp [t6]) (by simp),e8C,a70 _ (by simp [t6]),a1Z,b8j];exact ⟨congrArg some (b8D hg),h⟩
         ·simp only [cond_true];rw [d6R hni,e8C,a5U _ (by simp [t6]) (by simp),e8C,a70 _ (by simp [t6]),a1Z,b8j];exact ⟨rfl,h.put hid hni.fall⟩
        ·simp only [cond_true];have hr:=b7Y hni;have hl:=c0M n;rw [d6d hni,e8C,a5U _ (a9K (by omega)) (MI.okl hr.ms),e8C,a70 _ (by simp [t6]),a1Z];exact ⟨rfl,(h.put (hr.id.trans hid) hr.ni).send hr.ms⟩
       ·simp only [cond_true];have hr:=b5w hni;have hl:=b58 n;rw [d95 hni,e8C,a5U _ (a9K (by omega)) (MI.okl hr.ms),e8C,a70 _ (by simp [t6]),a1Z];exact ⟨rfl,(h.put (hr.id.trans hid) hr.ni).send hr.ms⟩
      ·simp only [cond_true];obtain ⟨a1,a2⟩:=d6D h (i:=i) (by omega) he;unfold c2m;rw [hi,show (⟨w.a9.set (i:Int).toNat n,w.b9,w.c9,w.Told⟩:m5)=w from b8D hg,a1];exact ⟨rfl,a2⟩
   ·exact ⟨rfl,n2⟩
  ·exact ⟨rfl,n2⟩
 ·exact ⟨rfl,n2⟩
theorem WI.open:WI N9:=by
 refine ⟨rfl,?_,by simp [N9],by simp [N9],by simp [N9],by simp [N9],by simp [N9],by simp [N9]⟩;intro i n hn;match i,hn with
 | 0,hn=>injection hn with hn;subst hn;exact ⟨rfl,.open (by omega)⟩
 | 1,hn=>injection hn with hn;subst hn;exact ⟨rfl,.open (by omega)⟩
 | 2,hn=>injection hn with hn;subst hn;exact ⟨rfl,.open (by omega)⟩
 | i+3,hn=>simp [N9] at hn
theorem c3y:b1U=some N9:=by
 have e:∀(ns:List j5) (i:Nat),i<3->ns.length<=3->a21 ns (i:Int)=some (.nxt (ns++[C4 (i:Int)],((i+1:Nat):Int))):=by
  intro ns i hi hn;unfold a21 c2T;rw [show decide ((i:Int)<3)=true by simp;omega,show decide ((i:Int)<0)=false by simp,show decide ((i:Int)>=3)=false by simp;omega];simp only [cond_true,cond_false,e8C];rw [t5 (by omega),B6 (by omega) (by omega)];rfl
 have h0:=C9 (body:=fun s:(List j5)×Int=>a21 s.1 s.2) (s:=([],((0:Nat):Int))) (e [] 0 (by omega) (by simp));have h1:=C9 (body:=fun s:(List j5)×Int=>a21 s.1 s.2) (s:=([C4 0],((1:Nat):Int))) (e [C4 0] 1 (by omega) (by simp));have h2:=C9 (body:=fun s:(List j5)×Int=>a21 s.1 s.2) (s:=([C4 0,C4 1],((2:Nat):Int))) (e [C4 0,C4 1] 2 (by omega) (by simp));have h3:=C2 (body:=fun s:(List j5)×Int=>a21 s.1 s.2) (s:=([C4 0,C4 1,C4 2],((3:Nat):Int))) (show a21 [C4 0,C4 1,C4 2] 3=_ from rfl);unfold b1U;rw [show o9 (fun s:(List j5)×Int=>a21 s.1 s.2) ([],0)=_ from h0.trans (h1.trans (h2.trans h3))];rfl
theorem c5P{w:m5}(h:WI w):∀{l:List p6},(∀e∈l,L3 e)->WI (a1f w l)
 | [],_=>h
 | e::l,he=>c5P (w:=C6 w e) (a63 h (he e (by simp))).2 (l:=l) fun x hx=>he x (by simp [hx])
theorem c5i{w:m5}(h:a2C w):b1F w=some w:=by
 obtain ⟨h1,h2,h3,h4⟩:=h;have b1:=h1.1;have b2:=h2.1;have b3:=h3.1;unfold b1F;rw [t5 (b1D h4),a5c (body:=fun s:(List j5)×Int=>b1f w s.1 s.2) w.a9 (h1.fits (by decide)) (fun l=>l) (by
  intro k hk;have hn:((w.a9.take k).length+1)*392<=140737488355328:=Nat.le_trans (e80 392 (show (w.a9.take k).length+1<=w.a9.length by rw [e83];omega)) (Nat.le_trans b1 (by decide));unfold b1f;rw [w8 _ k hk,u0 hk];simp only [cond_true,e8C,b15 (h1.2 _ (e8F hk)),t5 hn]) (by
  unfold b1f;rw [A3];rfl)]
 simp only [e8C,l8.go];unfold b9D;rw [a5c (body:=fun s:(List j7)×Int=>b1Q w s.1 s.2) w.b9 (h2.fits (by decide)) (fun l=>l) (by
  intro k hk;have hn:((w.b9.take k).length+1)*152<=140737488355328:=Nat.le_trans (e80 152 (show (w.b9.take k).length+1<=w.b9.length by rw [e83];omega)) (Nat.le_trans b2 (by decide));unfold b1Q;rw [w8 _ k hk,u0 hk];simp only [cond_true,e8C,b7r (h2.2 _ (e8F hk)),t5 hn]) (by
  unfold b1Q;rw [A3];rfl)]
 simp only [e8C,l8.go];unfold c2E;rw [a5c (body:=fun s:(List u5)×Int=>b0c w s.1 s.2) w.c9 (h3.fits (by decide)) (fun l=>l) (by
  intro k hk;unfold b0c;have hp:=(h3.2 _ (e8F hk)).2;have hn:((w.c9.take k).length+1)*40<=140737488355328:=Nat.le_trans (e80 40 (show (w.c9.take k).length+1<=w.c9.length by rw [e83];omega)) (Nat.le_trans b3 (by decide));rw [w8 _ k hk,u0 hk];simp only [cond_true,e8C,t5 (b1D hp),t5 hn,e9g]) (by
  unfold b0c;rw [A3];rfl)]
 rfl
theorem c3Y{l:List p6}(hl:t6 l)(he:∀e∈l,L3 e):∀(d k:Nat) (w:m5),WI w->l.length-k=d->o9 (fun s:(List j5)×(List j7)×(List u5)×(List m8)×Int=>a3I l s.1 s.2.1 s.2.2.1 s.2.2.2.1 s.2.2.2.2) (w.a9,w.b9,w.c9,w.Told,(k:Int))=some (.brk ((a1f w (l.drop k)).a9,(a1f w (l.drop k)).b9,(a1f w (l.drop k)).c9,(a1f w (l.drop k)).Told))
 | 0,k,w,h,hd=>by
  rw [e8S (by omega)];refine C2 ?_;show a3I l w.a9 w.b9 w.c9 w.Told (k:Int)=_
  unfold a3I;rw [show decide ((k:Int)<(l.length:Int))=false by simp;omega];rfl
 | d+1,k,w,h,hd=>by
  have hlt:k<l.length:=by omega
  obtain ⟨h1,h2⟩:=a63 h (he _ (e8F hlt));have hb:a3I l w.a9 w.b9 w.c9 w.Told (k:Int)=some (.nxt ((C6 w l[k]).a9,(C6 w l[k]).b9,(C6 w l[k]).c9,(C6 w l[k]).Told,((k+1:Nat):Int))):=by
   unfold a3I;rw [w8 _ k hlt,u0 hlt,cond_true,e8C,show (⟨w.a9,w.b9,w.c9,w.Told⟩:m5)=w from rfl,h1,e8C,F3 hl hlt]
  rw [C9 (body:=fun s:(List j5)×(List j7)×(List u5)×(List m8)×Int=>a3I l s.1 s.2.1 s.2.2.1 s.2.2.2.1 s.2.2.2.2) (s:=(w.a9,w.b9,w.c9,w.Told,(k:Int))) hb,c3Y hl he d (k+1) _ h2 (by omega),e8X hlt];rfl
def noW:m5:=⟨[],[],[],[]⟩
theorem d5s{w:m5}(h:a2C w){l:List p6}(hl:t6 l)(he:∀e∈l,L3 e):b2N w l=some (bif L0 w&&decide (l.length<=400) then a1f w l else noW):=by
 unfold b2N;rw [c5Z h,e8C,c5i h,show decide ((l.length:Int)>400) = !decide (l.length<=400) from a9w l 400];cases hw:L0 w
 ·rfl
 ·cases decide (l.length<=400)
  ·rfl
  ·simp only [e8H,cond_false,e8C,Bool.and_self,cond_true];rw [show o9 (fun s:(List j5)×(List j7)×(List u5)×(List m8)×Int=>a3I l s.1 s.2.1 s.2.2.1 s.2.2.2.1 s.2.2.2.2) (w.a9,w.b9,w.c9,w.Told,0)=_ from c3Y hl he l.length 0 w (b2A.1 hw) rfl];rfl
theorem T5{k a:Int}{p:List o8}(h:p.length<=10):L3 ⟨k,a,p⟩:=⟨by show p.length*32<=_;omega,fun _ _=>trivial⟩
theorem d7w(n:Int):∃v,b5E 1 n=some v:=by
 unfold b5E;cases decide ((1:Int)>n)<;>exact ⟨_,rfl⟩
theorem d4h{r:s6}{m:Nat}(h:Rd r m)(hm:m<=1000000)(w:m5):∃e r',b7l r w=some (e,r',w)/\Rd r' (m+210)/\L3 e:=by
 obtain ⟨v,hv⟩:=d7w (w.b9.length:Int);obtain ⟨a,r1,e1,h1,_⟩:=G3 h (by omega) v;obtain ⟨b,r2,e2,h2,_⟩:=G3 h1 (by omega) 24;have ask:∃e r',((D5 r2 3).bind fun p=>(a3v p.2).bind fun q=>some (p6.mk 1 p.1 q.1,q.2,w))=some (e,r',w)/\Rd r' (m+210)/\L3 e:=by
  obtain ⟨c,r3,e3,h3,_⟩:=G3 h2 (by omega) 3;obtain ⟨p,r4,e4,h4,hp⟩:=c0X h3 (by omega);rw [e3,e8C,e4,e8C];exact ⟨_,_,rfl,h4.mono (by omega),T5 hp⟩
 obtain ⟨c3,r3,e3,h3,_⟩:=G3 h2 (by omega) 3;obtain ⟨c4,r4,e4,h4,_⟩:=G3 h2 (by omega) 2;obtain ⟨c5,r5,e5,h5,_⟩:=G3 h4 (by omega) 3;obtain ⟨c6,r6,e6,h6,_⟩:=G3 h3 (by omega) 10;obtain ⟨c7,r7,e7,h7,_⟩:=G3 h6 (by omega) 5;obtain ⟨p,r8,e8,h8,hp⟩:=c0X h3 (by omega);have z:∀(k x:Int) (r:s6) (j:Nat),Rd r j->j<=m+210->∃e r',(some (p6.mk k x [],r,w):Option (p6×s6×m5))=some (e,r',w)/\Rd r' (m+210)/\L3 e:=fun k x r j hr hj=>⟨_,_,rfl,hr.mono hj,T5 (by simp)⟩
 unfold b7l;rw [hv,e8C,e1,e8C,e2,e8C];simp only [e3,e4,e5,e6,e7,e8,e8C];cases b==0
 ·cases b==1
  ·cases b==2
   ·cases b==3
    ·cases b==4
     ·cases b==5
      ·cases b==6
       ·cases b==7
        ·cases b==8
         ·cases b==9
          ·cases b==10
           ·exact z _ _ _ _ h2 (by omega)
           ·cases c3==0
            ·exact z _ _ _ _ h3 (by omega)
            ·exact z _ _ _ _ h7 (by omega)
          ·exact z _ _ _ _ h2 (by omega)
         ·exact z _ _ _ _ h2 (by omega)
        ·cases c4==0
         ·exact z _ _ _ _ h4 (by omega)
         ·exact z _ _ _ _ h5 (by omega)
       ·exact z _ _ _ _ h3 (by omega)
      ·exact z _ _ _ _ h3 (by omega)
     ·exact z _ _ _ _ h3 (by omega)
    ·exact ⟨_,_,rfl,h8.mono (by omega),T5 hp⟩
   ·exact ⟨_,_,rfl,h8.mono (by omega),T5 hp⟩
  ·exact ⟨_,_,rfl,h8.mono (by omega),T5 hp⟩
 ·exact ⟨_,_,rfl,h8.mono (by omega),T5 hp⟩
structure R4(w:m5)(out:List p6)(b:Nat):Prop where
 w:WI w
 e:∀x∈out,L3 x
 l:out.length<=b
theorem c48{out:List p6}{e:p6}(h:∀x∈out,L3 x)(he:L3 e):∀x∈out++[e],L3 x:=by
 intro x hx;rcases List.mem_append.1 hx with q|q
 ·exact h x q
 ·rw [e8J.1 q];exact he
theorem a1G{w:m5}{out:List p6}{b:Nat}(h:R4 w out b)(hb:b<=1000){e:p6}(he:L3 e):a0L w out e=some (C6 w e,out++[e])/\R4 (C6 w e) (out++[e]) (b+1):=by
 obtain ⟨h1,h2⟩:=a63 h.w he;have hl:=h.l;unfold a0L;rw [h1,e8C,t5 (by omega)];exact ⟨rfl,h2,c48 h.e he,by simp;omega⟩
theorem e6b{r:s6}{m:Nat}(h:Rd r m)(hm:m<=1000){w:m5}(hw:WI w){n:Nat}(hn:n<=90):∃l r',b4J r w (n:Int)=some (l,r')/\(∀e∈l,L3 e)/\l.length<=90/\Rd r' 1000000:=by
 have hloop:=b3m (body:=fun s:s6×(List p6)×(List m8)×(List u5)×(List j7)×(List j5)×Int=>b3d (n:Int) s.1 s.2.1 s.2.2.1 s.2.2.2.1 s.2.2.2.2.1 s.2.2.2.2.2.1 s.2.2.2.2.2.2)
  (fun k s=>k<=n/\s.2.2.2.2.2.2=((n-k:Nat):Int)/\WI ⟨s.2.2.2.2.2.1,s.2.2.2.2.1,s.2.2.2.1,s.2.2.1⟩/\(∀e∈s.2.1,L3 e)/\s.2.1.length=n-k/\Rd s.1 (m+210*(n-k)))
  (fun x => ∃ (r':s6) (l:List p6),x=.brk (r',l)/\(∀e∈l,L3 e)/\l.length<=90/\Rd r' 1000000) (by
   rintro k ⟨r1,out,told,asked,net,nodes,i⟩ ⟨hk,hi,hw,he,hl,hr⟩
   simp only at hi hw he hl hr;unfold b3d;rw [hi];cases k with
   | zero =>
    rw [show decide (((n-0:Nat):Int)<(n:Int))=false by simp];exact ⟨_,rfl,_,_,rfl,he,by simp only;omega,hr.mono (by omega)⟩
   | succ k =>
    rw [show decide (((n-(k+1):Nat):Int)<(n:Int))=true by simp;omega];obtain ⟨e,r2,ee,hr2,hee⟩:=d4h hr (by omega) ⟨nodes,net,asked,told⟩;obtain ⟨d1,d2⟩:=a63 hw hee;simp only [cond_true,ee,e8C];rw [t5 trivial,t5 trivial,t5 trivial,t5 trivial,t5 (by omega),c5Z hw.ok,b2A.2 hw,c5i hw.ok];simp only [e8C,cond_true,d1,l8.go,c0B];refine ⟨_,rfl,k,by omega,by omega,?_,d2,c48 he hee,by simp;omega,hr2.mono (by omega)⟩;rw [B6 (by omega) (by omega)];simp only;omega) (k:=n) (s:=(r,[],w.Told,w.c9,w.b9,w.a9,0)) ⟨e9h _,by simp,hw,by simp,by simp,by simpa using h⟩
 obtain ⟨x,hx,r',l,rfl,h1,h2⟩:=hloop;unfold b4J;rw [hx];exact ⟨l,r',rfl,h1,h2⟩
theorem d7j{w:m5}(h:0<w.b9.length):C6 w ⟨3,0,[]⟩=a3i w 0:=by
 unfold C6 a17;simp only [show ((3:Int)==2)=false from rfl,show ((3:Int)==3)=true from rfl,show ((3:Int)==4)=false from rfl,Bool.or_false,e9a,cond_true,cond_false,show decide ((0:Int)<=0)=true from rfl,Int.toNat_zero];rw [e8D h]
theorem e1e(w:m5)(a:Int)(p:List o8):(C6 w ⟨5,a,p⟩).b9.length<=w.b9.length+3:=by
 unfold C6;simp only [show ((5:Int)==2)=false from rfl,show ((5:Int)==3)=false from rfl,show ((5:Int)==4)=false from rfl,show ((5:Int)==1)=false from rfl,show ((5:Int)==5)=true from rfl,Bool.or_false,cond_true,cond_false];cases !n9 a 0 2
 ·have:=b58 (K5 w a);simp only [cond_false,a0a,R3,e8O,e83];omega
 ·simp
theorem d1Q{b:Nat}:∀(d:Nat) (w:m5) (out:List p6),w.b9.length=d->R4 w out b->b+d<=1000->∃w' out',o9 (fun s:(List p6)×(List j5)×(List j7)×(List u5)×List m8=>a4A s.1 s.2.1 s.2.2.1 s.2.2.2.1 s.2.2.2.2) (out,w.a9,w.b9,w.c9,w.Told)=some (.brk (out',w'.a9,w'.b9,w'.c9,w'.Told))/\w'.b9=[]/\R4 w' out' (b+d)
 | 0,w,out,hd,h,hb=>by
  refine ⟨w,out,C2 ?_,e8N hd,h⟩;show a4A out w.a9 w.b9 w.c9 w.Told=_
  unfold a4A;rw [show decide ((w.b9.length:Int)>0)=false from decide_eq_false (by omega)];rfl
 | d+1,w,out,hd,h,hb=>by
  obtain ⟨t1,t2⟩:=a1G h (by omega) (e:=⟨3,0,[]⟩) (T5 (by simp));have hs:a4A out w.a9 w.b9 w.c9 w.Told=some (.nxt (out++[⟨3,0,[]⟩],(C6 w ⟨3,0,[]⟩).a9,(C6 w ⟨3,0,[]⟩).b9,(C6 w ⟨3,0,[]⟩).c9,(C6 w ⟨3,0,[]⟩).Told)):=by
   unfold a4A;rw [show decide ((w.b9.length:Int)>0)=true from decide_eq_true (by omega),cond_true,show (⟨w.a9,w.b9,w.c9,w.Told⟩:m5)=w from rfl,t1];rfl
  rw [C9 (body:=fun s:(List p6)×(List j5)×(List j7)×(List u5)×List m8=>a4A s.1 s.2.1 s.2.2.1 s.2.2.2.1 s.2.2.2.2) (s:=(out,w.a9,w.b9,w.c9,w.Told)) hs];obtain ⟨w',out',e1,e2,e3⟩:=d1Q (b:=b+1) d (C6 w ⟨3,0,[]⟩) _ (by rw [d7j (by omega)];simp [a3i];omega) t2 (by omega);exact ⟨w',out',e1,e2,⟨e3.w,e3.e,by have:=e3.l;omega⟩⟩
theorem c4I{p:Int×s6}{B:Nat}(hB:B<=900):∀(i:Nat) (w:m5) (out:List p6) (b:Nat),R4 w out b->b+w.b9.length+4*i<=B->i<=100->∃w' out',o9 (fun s:(List m8)×(List u5)×(List j7)×(List j5)×(List p6)×Int=>a8w p s.1 s.2.1 s.2.2.1 s.2.2.2.1 s.2.2.2.2.1 s.2.2.2.2.2) (w.Told,w.c9,w.b9,w.a9,out,(i:Int))=some (.brk (out',w'.a9,w'.b9,w'.c9,w'.Told))/\R4 w' out' B
 | 0,w,out,b,h,hb,hi=>by
  refine ⟨w,out,C2 ?_,h.w,h.e,by have:=h.l;omega⟩;rfl
 | i+1,w,out,b,h,hb,hi=>by
  obtain ⟨w1,out1,e1,e2,e3⟩:=d1Q (b:=b) w.b9.length w out rfl h (by omega);obtain ⟨t1,t2⟩:=a1G e3 (by omega) (e:=⟨5,p.1,[]⟩) (T5 (by simp));have hs:a8w p w.Told w.c9 w.b9 w.a9 out ((i+1:Nat):Int)=some (.nxt ((C6 w1 ⟨5,p.1,[]⟩).Told,(C6 w1 ⟨5,p.1,[]⟩).c9,(C6 w1 ⟨5,p.1,[]⟩).b9,(C6 w1 ⟨5,p.1,[]⟩).a9,out1++[⟨5,p.1,[]⟩],(i:Int))):=by
   unfold a8w;rw [show decide (((i+1:Nat):Int)>0)=true from decide_eq_true (by omega),cond_true,e1];simp only [e8C,l8.go,b9l];rw [show (⟨w1.a9,w1.b9,w1.c9,w1.Told⟩:m5)=w1 from rfl,t1,e8C,B6 (by omega) (by omega),show ((i+1:Nat):Int)-1=(i:Int) by omega]
  rw [C9 (body:=fun s:(List m8)×(List u5)×(List j7)×(List j5)×(List p6)×Int=>a8w p s.1 s.2.1 s.2.2.1 s.2.2.2.1 s.2.2.2.2.1 s.2.2.2.2.2) (s:=(w.Told,w.c9,w.b9,w.a9,out,((i+1:Nat):Int))) hs];have hn:=e1e w1 p.1 [];rw [e2] at hn;simp only [e92,e9k] at hn;exact c4I hB i _ _ _ t2 (by omega) (by omega)
theorem d6y{r:s6}{m:Nat}(h:Rd r m)(hm:m<=1000){w:m5}{out:List p6}(hw:R4 w out 1):∃w' out' r',b6j r w out=some (w',out',r')/\R4 w' out' 130/\Rd r' (m+3):=by
 obtain ⟨a,r1,e1,h1,_⟩:=G3 h (by omega) 3;obtain ⟨v,r2,e2,h2,hv⟩:=a9T h1 (by omega) [3,8,20] (by simp) (by simp);obtain ⟨i,hi,hi20⟩:∃i:Nat,v=(i:Int)/\i<=20:=by
  simp at hv;rcases hv with rfl|rfl|rfl
  ·exact ⟨3,rfl,by omega⟩
  ·exact ⟨8,rfl,by omega⟩
  ·exact ⟨20,rfl,by omega⟩
 have hml:=hw.w.ml;obtain ⟨w',out',e3,e4⟩:=c4I (p:=(a,r1)) (B:=125) (by omega) i w out 1 hw (by omega) (by omega);have e4':R4 w' out' 125:=e4;unfold b6j;rw [e1,e8C,e2,e8C,hi,e3];simp only [e8C,l8.go,b8o];cases decide ((w'.b9.length:Int)>0)
 ·simp only [cond_false,e8C,l8.go,b5u];obtain ⟨t1,t2⟩:=a1G e4' (by omega) (e:=⟨7,a,[]⟩) (T5 (by simp));rw [show (⟨w'.a9,w'.b9,w'.c9,w'.Told⟩:m5)=w' from rfl,t1];exact ⟨_,_,_,rfl,⟨t2.w,t2.e,by have:=t2.l;simp only;omega⟩,h2.mono (by omega)⟩
 ·obtain ⟨c,r3,e5,h5,_⟩:=G3 h2 (by omega) (w'.b9.length:Int);obtain ⟨t1,t2⟩:=a1G e4' (by omega) (e:=⟨2,c,[]⟩) (T5 (by simp));obtain ⟨u1,u2⟩:=a1G t2 (by omega) (e:=⟨7,a,[]⟩) (T5 (by simp));simp only [cond_true,e5,e8C];rw [show (⟨w'.a9,w'.b9,w'.c9,w'.Told⟩:m5)=w' from rfl,t1];simp only [e8C,l8.go,b5u];rw [show (⟨(C6 w' ⟨2,c,[]⟩).a9,(C6 w' ⟨2,c,[]⟩).b9,(C6 w' ⟨2,c,[]⟩).c9,(C6 w' ⟨2,c,[]⟩).Told⟩:m5)=C6 w' ⟨2,c,[]⟩ from rfl,u1];exact ⟨_,_,_,rfl,⟨u2.w,u2.e,by have:=u2.l;simp only;omega⟩,h5.mono (by omega)⟩
theorem d3p{M:Nat}(hM:M<=100000){r:s6}{w:m5}{out:List p6}(h:R4 w out 290)(hr:Rd r (M+10*out.length)):∃w' out' r',o9 (fun s:s6×(List j5)×(List j7)×(List u5)×(List m8)×List p6=>b1e s.1 s.2.1 s.2.2.1 s.2.2.2.1 s.2.2.2.2.1 s.2.2.2.2.2) (r,w.a9,w.b9,w.c9,w.Told,out)=some (.brk (r',w'.a9,w'.b9,w'.c9,w'.Told,out'))/\R4 w' out' (max out.length 201)/\Rd r' (M+10*out'.length+2):=by
 have hloop:=b3m (body:=fun s:s6×(List j5)×(List j7)×(List u5)×(List m8)×List p6=>b1e s.1 s.2.1 s.2.2.1 s.2.2.2.1 s.2.2.2.2.1 s.2.2.2.2.2)
  (fun k s => ∃w:m5,s.2=(w.a9,w.b9,w.c9,w.Told,s.2.2.2.2.2)/\R4 w s.2.2.2.2.2 (max out.length 201)/\k=300-s.2.2.2.2.2.length/\Rd s.1 (M+10*s.2.2.2.2.2.length))
  (fun x => ∃ (w':m5) (out':List p6) (r':s6),x=.brk (r',w'.a9,w'.b9,w'.c9,w'.Told,out')/\R4 w' out' (max out.length 201)/\Rd r' (M+10*out'.length+2)) (by
   rintro k ⟨r1,s⟩ ⟨w1,hs,hf,hk,hr1⟩
   simp only at hs hf hk hr1;obtain ⟨nodes,net,asked,told,o⟩:=s;simp only at hs hf hk hr1;injection hs with e1 e2;injection e2 with e2 e3;injection e3 with e3 e4;injection e4 with e4 e5;subst e1;subst e2;subst e3;subst e4;have hl:=hf.l;have hol:=h.l;unfold b1e;cases decide ((w1.b9.length:Int)>0)
   ·exact ⟨_,rfl,w1,o,r1,rfl,hf,hr1.mono (by omega)⟩
   ·obtain ⟨a,r2,p1,p2,_⟩:=G3 hr1 (by omega) 9;simp only [cond_true,p1,e8C];cases decide (a>0)
    ·exact ⟨_,rfl,w1,o,r2,rfl,hf,p2.mono (by omega)⟩
    ·simp only [cond_true];by_cases h200:o.length<200
     ·rw [show decide ((o.length:Int)<200)=true from decide_eq_true (by omega)];obtain ⟨b,r3,q1,q2,_⟩:=G3 p2 (by omega) 8;have go:∀(w2:m5) (o2:List p6) (r4:s6) (j:Nat),R4 w2 o2 (max out.length 201)->o2.length<=200->Rd r4 j->j<=M+10*o2.length+4->o.length<=o2.length->∃st,b5g r4 w2.a9 w2.b9 w2.c9 w2.Told o2=some st/\match st with
        | .ret _=>False
        | .brk _=>False
        | .nxt t => ∃k',k'<k/\∃w:m5,t.2=(w.a9,w.b9,w.c9,w.Told,t.2.2.2.2.2)/\R4 w t.2.2.2.2.2 (max out.length 201)/\k'=300-t.2.2.2.2.2.length/\Rd t.1 (M+10*t.2.2.2.2.2.length):=by
       intro w2 o2 r4 j hf2 ho2 hr4 hj hle;obtain ⟨c,r5,x1,x2,_⟩:=G3 hr4 (by omega) (w2.b9.length:Int);obtain ⟨d,r6,y1,y2,_⟩:=a9T x2 (by omega) [0,0,c] (by simp) (by simp);obtain ⟨t1,t2⟩:=a1G (b:=200) ⟨hf2.w,hf2.e,ho2⟩ (by omega) (e:=⟨2,d,[]⟩) (T5 (by simp));unfold b5g;rw [x1,e8C,y1,e8C,show (⟨w2.a9,w2.b9,w2.c9,w2.Told⟩:m5)=w2 from rfl,t1];refine ⟨_,rfl,300-(o2++[(⟨2,d,[]⟩:p6)]).length,by simp;omega,C6 w2 ⟨2,d,[]⟩,rfl,⟨t2.w,t2.e,by simp;omega⟩,rfl,y2.mono (by simp;omega)⟩
      simp only [cond_true,q1,e8C];cases b==0
      ·obtain ⟨st,g1,g2⟩:=go w1 o r3 _ hf (by omega) q2 (by omega) (e9h _);refine ⟨st,g1,?_⟩;cases st with
       | ret _=>exact g2.elim
       | brk _=>exact g2.elim
       | nxt t=>exact g2
      ·obtain ⟨c,r4,x1,x2,_⟩:=G3 q2 (by omega) (w1.b9.length:Int);obtain ⟨t1,t2⟩:=a1G (b:=199) ⟨hf.w,hf.e,by omega⟩ (by omega) (e:=⟨4,c,[]⟩) (T5 (by simp));simp only [cond_true,x1,e8C];rw [show (⟨w1.a9,w1.b9,w1.c9,w1.Told⟩:m5)=w1 from rfl,t1];simp only [e8C,l8.go];have hl2:(o++[(⟨4,c,[]⟩:p6)]).length=o.length+1:=by simp
       obtain ⟨st,g1,g2⟩:=go (C6 w1 ⟨4,c,[]⟩) (o++[⟨4,c,[]⟩]) r4 _ ⟨t2.w,t2.e,by omega⟩ (by omega) x2 (by omega) (by omega);refine ⟨st,g1,?_⟩;cases st with
       | ret _=>exact g2.elim
       | brk _=>exact g2.elim
       | nxt t=>exact g2
     ·rw [show decide ((o.length:Int)<200)=false from decide_eq_false (by omega)];exact ⟨_,rfl,w1,o,r2,rfl,hf,p2.mono (by omega)⟩) (k:=300-out.length) (s:=(r,w.a9,w.b9,w.c9,w.Told,out)) ⟨w,rfl,⟨h.w,h.e,by simp only;omega⟩,rfl,hr⟩
 obtain ⟨x,hx,w',out',r',rfl,h1,h2⟩:=hloop;exact ⟨w',out',r',hx,h1,h2⟩
theorem c9X:∀(i:Nat) (r:s6) (w:m5) (out:List p6),i<=6->R4 w out (201+3*(6-i))->Rd r (10000-1000*i+10*out.length)->∃r' out',o9 (fun s:s6×(List j5)×(List j7)×(List u5)×(List m8)×(List p6)×Int=>a9J s.1 s.2.1 s.2.2.1 s.2.2.2.1 s.2.2.2.2.1 s.2.2.2.2.2.1 s.2.2.2.2.2.2) (r,w.a9,w.b9,w.c9,w.Told,out,(i:Int))=some (.brk (r',out'))/\(∀e∈out',L3 e)/\out'.length<=300/\Rd r' 1000000
 | 0,r,w,out,hi,h,hr=>⟨r,out,C2 rfl,h.e,by have:=h.l;omega,hr.mono (by have:=h.l;omega)⟩
 | i+1,r,w,out,hi,h,hr=>by
  have hl:=h.l;obtain ⟨a,r1,p1,p2,_⟩:=G3 hr (by omega) 3;obtain ⟨pr,r2,q1,q2,q3⟩:=c0X p2 (by omega);obtain ⟨t1,t2⟩:=a1G h (by omega) (e:=⟨1,a,pr⟩) (T5 q3);have hlen:(out++[(⟨1,a,pr⟩:p6)]).length=out.length+1:=by simp
  obtain ⟨w3,o3,r3,x1,x2,x3⟩:=d3p (M:=10000-1000*(i+1)+201) (by omega) (w:=C6 w ⟨1,a,pr⟩) (out:=out++[⟨1,a,pr⟩]) (r:=r2) ⟨t2.w,t2.e,by omega⟩ (q2.mono (by omega));have x2l:=x2.l;obtain ⟨b,r4,y1,y2,_⟩:=G3 x3 (by omega) 4;have fin:∀(w4:m5) (o4:List p6) (r5:s6) (j:Nat),R4 w4 o4 (201+3*(6-(i+1))+2)->Rd r5 j->j<=10000-1000*(i+1)+300+10*o4.length->∃w5 o5 r6,b71 ((i+1:Nat):Int) r5 w4.a9 w4.b9 w4.c9 w4.Told o4=some (.nxt (r6,w5.a9,w5.b9,w5.c9,w5.Told,o5,(i:Int)))/\R4 w5 o5 (201+3*(6-i))/\Rd r6 (10000-1000*i+10*o5.length):=by
   intro w4 o4 r5 j hf hr5 hj;have hfl:=hf.l;obtain ⟨c,r6,z1,z2,_⟩:=G3 hr5 (by omega) 3;obtain ⟨u1,u2⟩:=a1G hf (by omega) (e:=⟨6,c,[]⟩) (T5 (by simp));refine ⟨C6 w4 ⟨6,c,[]⟩,o4++[⟨6,c,[]⟩],r6,?_,⟨u2.w,u2.e,by have:=u2.l;omega⟩,z2.mono (by simp;omega)⟩;unfold b71;rw [z1,e8C,show (⟨w4.a9,w4.b9,w4.c9,w4.Told⟩:m5)=w4 from rfl,u1,e8C,B6 (by omega) (by omega),show ((i+1:Nat):Int)-1=(i:Int) by omega]
  have hstep:∃w5 o5 r6,a9J r w.a9 w.b9 w.c9 w.Told out ((i+1:Nat):Int)=some (.nxt (r6,w5.a9,w5.b9,w5.c9,w5.Told,o5,(i:Int)))/\R4 w5 o5 (201+3*(6-i))/\Rd r6 (10000-1000*i+10*o5.length):=by
   unfold a9J;rw [show decide (((i+1:Nat):Int)>0)=true from decide_eq_true (by omega),cond_true,p1,e8C,q1,e8C,show (⟨w.a9,w.b9,w.c9,w.Told⟩:m5)=w from rfl,t1,e8C,x1];simp only [e8C,l8.go];unfold c0W;rw [y1,e8C];cases b==0
   ·cases b==1
    ·simp only [cond_false,e8C,l8.go];exact fin w3 o3 r4 _ ⟨x2.w,x2.e,by omega⟩ y2 (by omega)
    ·obtain ⟨c,r5,z1,z2,_⟩:=G3 y2 (by omega) 3;obtain ⟨u1,u2⟩:=a1G x2 (by omega) (e:=⟨5,c,[]⟩) (T5 (by simp));simp only [cond_false,cond_true,z1,e8C];rw [show (⟨w3.a9,w3.b9,w3.c9,w3.Told⟩:m5)=w3 from rfl,u1];simp only [e8C,l8.go];exact fin (C6 w3 ⟨5,c,[]⟩) _ r5 _ ⟨u2.w,u2.e,by have:=u2.l;omega⟩ z2 (by simp;omega)
   ·obtain ⟨c,r5,z1,z2,_⟩:=G3 y2 (by omega) 3;obtain ⟨u1,u2⟩:=a1G x2 (by omega) (e:=⟨7,c,[]⟩) (T5 (by simp));simp only [cond_true,z1,e8C];rw [show (⟨w3.a9,w3.b9,w3.c9,w3.Told⟩:m5)=w3 from rfl,u1];simp only [e8C,l8.go];exact fin (C6 w3 ⟨7,c,[]⟩) _ r5 _ ⟨u2.w,u2.e,by have:=u2.l;omega⟩ z2 (by simp;omega)
  obtain ⟨w5,o5,r6,s1,s2,s3⟩:=hstep;rw [C9 (body:=fun s:s6×(List j5)×(List j7)×(List u5)×(List m8)×(List p6)×Int=>a9J s.1 s.2.1 s.2.2.1 s.2.2.2.1 s.2.2.2.2.1 s.2.2.2.2.2.1 s.2.2.2.2.2.2) (s:=(r,w.a9,w.b9,w.c9,w.Told,out,((i+1:Nat):Int))) s1];exact c9X i r6 w5 o5 (by omega) s2 s3
theorem e0I{r:s6}{m:Nat}(h:Rd r m)(hm:m<=100):∃l r',b27 r=some (l,r')/\(∀e∈l,L3 e)/\l.length<=300/\Rd r' 1000000:=by
 obtain ⟨a,r1,p1,p2,_⟩:=G3 h (by omega) 3;obtain ⟨t1,t2⟩:=a1G (w:=N9) (out:=[]) (b:=0) ⟨WI.open,by simp,by simp⟩ (by omega) (e:=⟨5,a,[]⟩) (T5 (by simp));obtain ⟨b,r2,q1,q2,_⟩:=G3 p2 (by omega) 3;unfold b27;rw [c3y,e8C,p1,e8C,t1,e8C,q1,e8C];have tail:∀(w:m5) (out:List p6) (r3:s6) (j:Nat),R4 w out 130->Rd r3 j->j<=200->∃l r',b5U r3 w.a9 w.b9 w.c9 w.Told out=some (l,r')/\(∀e∈l,L3 e)/\l.length<=300/\Rd r' 1000000:=by
  intro w out r3 j hf hr3 hj;obtain ⟨c,r4,x1,x2,x3,x4⟩:=G3 hr3 (by omega) 3;obtain ⟨i,hi,hi6⟩:∃i:Nat,m7 (3+c)=(i:Int)/\i<=6:=⟨(3+c).toNat,by rw [B6 (by omega) (by omega)];omega,by omega⟩
  obtain ⟨r',out',e1,e2,e3⟩:=c9X i r4 w out hi6 ⟨hf.w,hf.e,by have:=hf.l;omega⟩ (x2.mono (by omega));unfold b5U;rw [x1,e8C,hi,e1];exact ⟨out',r',rfl,e2,e3⟩
 have tf:R4 (C6 N9 ⟨5,a,[]⟩) ([]++[(⟨5,a,[]⟩:p6)]) 1:=t2;cases decide (b>0)
 ·obtain ⟨c,r3,x1,x2,_⟩:=G3 q2 (by omega) 5;simp only [cond_false,x1,e8C];cases c==0
  ·exact tail _ _ r3 _ ⟨tf.w,tf.e,by simp⟩ x2 (by omega)
  ·obtain ⟨w',o',r',y1,y2,y3⟩:=d6y x2 (by omega) tf;simp only [cond_true];rw [y1];exact tail w' o' r' _ y2 y3 (by omega)
 ·obtain ⟨v,r3,x1,x2,x3⟩:=a9T q2 (by omega) [10,30,60,90] (by simp) (by simp);obtain ⟨n,hn,hn90⟩:∃n:Nat,v=(n:Int)/\n<=90:=by
   simp at x3;rcases x3 with rfl|rfl|rfl|rfl
   ·exact ⟨10,rfl,by omega⟩
   ·exact ⟨30,rfl,by omega⟩
   ·exact ⟨60,rfl,by omega⟩
   ·exact ⟨90,rfl,by omega⟩
  obtain ⟨l,r4,y1,y2,y3,y4⟩:=e6b x2 (by omega) tf.w hn90;simp only [cond_true,x1,e8C];rw [hn,y1,e8C,t5 (by simp;omega)];refine ⟨_,_,rfl,?_,by simp;omega,y4⟩;intro e he;rcases List.mem_append.1 he with q|q
  ·exact tf.e e q
  ·exact y2 e q
theorem d2O{code:List Int}(h:∀x∈code,a5L x):∃l,a96 code=some l/\(∀e∈l,L3 e)/\l.length<=300:=by
 obtain ⟨r,h1,h2⟩:=d6j h;obtain ⟨l,r',e1,e2,e3,_⟩:=e0I h2 (by omega);unfold a96;rw [h1,e8C,e1];exact ⟨l,rfl,e2,e3⟩
theorem a65{α:Type}{l:List α}(z:α)(b:Nat)(h:l.length*b<=140737488351232):(bif ((l.length:Int)==0) then some [] else s7 (0<=(l.length:Int)/\(l.length:Int)*(b:Int)<=140737488355328) (s7 (l.length=(e8E (l.length:Int).toNat z).length) (some l)))=some l:=by
 cases hl:((l.length:Int)==0)
 ·have:(l.length:Int)*(b:Int)=((l.length*b:Nat):Int):=by rw [Int.natCast_mul]
  rw [cond_false,t5 ⟨by omega,by omega⟩,t5 (by simp)]
 ·simp only [beq_iff_eq] at hl;rw [e8N (by omega:l.length=0)];rfl
theorem b4j{α R:Type}{body:List α×Int->Option (l7 R (List α×Int) (List α))}(l:List α)(hl:t6 l)(h1:∀(k:Nat) (hk:k<l.length),body (l,(k:Int))=some (.nxt (l.set k l[k],m7 ((k:Int)+1))))(h2:body (l,(l.length:Int))=some (.brk l)):o9 body (l,0)=some (.brk l):=by
 have:=X3 (body:=body) (fun k=>(l,(k:Int))) l.length fun k hk=>by rw [h1 k hk,F3 hl hk,f0a]
 exact this.trans (C2 h2)
theorem a4O{α:Type}{body:Int->Option (l7 Bool Int Unit)}(l:List α)(hl:t6 l)(h1:∀(k:Nat) (hk:k<l.length),body (k:Int)=some (.nxt (m7 ((k:Int)+1))))(h2:body (l.length:Int)=some (.brk ())):o9 body 0=some (.brk ()):=by
 have:=X3 (body:=body) (fun k=>(k:Int)) l.length fun k hk=>by rw [h1 k hk,F3 hl hk]
 exact this.trans (C2 h2)
theorem b6k{l:List m6}(h:z7 96 P7 l):a7w l=some l:=by
 unfold a7w;rw [show b9t l=some l from a65 _ 96 h.1,e8C,b4j l (h.fits (by decide))]
 ·rfl
 ·intro k hk;unfold b6m;rw [w8 _ k hk,cond_true,u0 hk,e8C,b1Z (h.2 _ (e8F hk)).2];rfl
 ·unfold b6m;rw [A3];rfl
theorem b3T{x:v6}(h:a5a x):a4q x=some x:=by
 unfold a4q;rw [b6k h.2];rfl
theorem c7L{l:List Bool}(h:z7 1 okT l):b7x l=some l:=a65 _ 1 h.1
theorem c4J{l:List o8}(h:l.length*32<=140737488351232):a6h l=some l:=a65 _ 32 h
theorem c3h{l:List m8}(h:l.length*40<=140737488351232):b3y l=some l:=a65 _ 40 h
theorem b6D{n:j5}(h:Q1 n):a67 n=some n:=by
 obtain ⟨h1,h2,h3,h4,h5,h6,h7,h8,h9,h10,h11,h12,h13⟩:=h;unfold a67;rw [b3T h2,e8C,c61 h3,e8C,c7L h7,e8C,b6k h8,e8C,b1Z h9,e8C,c7L h10,e8C,c4J h11.1,e8C,b1Z h12,e8C,c61 h13];rfl
theorem d8f{m:j7}(h:X9 m):b38 m=some m:=by
 unfold b38;rw [b1Z h.2.2.2.2.2.1,e8C,b6k h.2.2.2.2.2.2];rfl
theorem c7r{l:List j7}(h:z7 152 X9 l):b2Y l=some l:=by
 unfold b2Y;rw [show b9B l=some l from a65 _ 152 h.1,e8C,b4j l (h.fits (by decide))]
 ·rfl
 ·intro k hk;unfold b5B;rw [w8 _ k hk,cond_true,u0 hk,e8C,d8f (h.2 _ (e8F hk))];rfl
 ·unfold b5B;rw [A3];rfl
theorem b3a{w:m5}(h:a2C w):a0O w=some w:=by
 obtain ⟨h1,h2,h3,h4⟩:=h;unfold a0O b9R;rw [show c2R w.a9=some w.a9 from a65 _ 392 h1.1,e8C,c7r h2,e8C,show b8J w.c9=some w.c9 from a65 _ 40 h3.1,e8C,c3h h4.1,e8C,b4j w.a9 (h1.fits (by decide))]
 ·simp only [e8C,l8.go];rw [b4j w.c9 (h3.fits (by decide))]
  ·rfl
  ·intro k hk;unfold b3K;rw [w8 _ k hk,cond_true,u0 hk,e8C,c4J (h3.2 _ (e8F hk)).2.1];rfl
  ·unfold b3K;rw [A3];rfl
 ·intro k hk;unfold b4n;rw [w8 _ k hk,cond_true,u0 hk,e8C,b6D (h1.2 _ (e8F hk))];rfl
 ·unfold b4n;rw [A3];rfl
theorem d5y:b4I=some N9:=by
 unfold b4I;have e:∀i:Int,0<=i->i<=2->b4A i=some (C4 i):=fun i h1 h2=>by
  unfold b4A;rw [K9,e8C,n9,decide_eq_true ⟨h1,h2⟩];rfl
 rw [C9 (t:=([C4 0],1)) (by unfold a85;rw [e 0 (by omega) (by omega)];rfl),C9 (t:=([C4 0,C4 1],2)) (by unfold a85;rw [e 1 (by omega) (by omega)];rfl),C9 (t:=([C4 0,C4 1,C4 2],3)) (by unfold a85;rw [e 2 (by omega) (by omega)];rfl),C2 (b:=[C4 0,C4 1,C4 2]) (by unfold a85;rfl)];show (a0O N9).bind _=_
 rw [b3a WI.open.ok];rfl
theorem b00{e:m4}(h:D7 e):Z1 e e=some true:=by
 unfold Z1;have:a3g e.b8 e.b8=true:=(c1Y _ _).2 rfl;simp only [beq_self_eq_true,cond_true,c0A h.2.f,this,e8C]
theorem c1l{l:List m6}(h:z7 96 P7 l):a77 l l=some true:=by
 unfold a77;rw [bne_self_eq_false,cond_false,a4O l (h.fits (by decide))]
 ·rfl
 ·intro k hk;unfold b5e;simp only [w8 _ k hk,cond_true,u0 hk,e8C,bne_self_eq_false,cond_false,b00 (h.2 _ (e8F hk)).2,e8H]
 ·unfold b5e;rw [A3];rfl
theorem c3d{l:List m4}(h:z7 88 D7 l):b2s l l=some true:=by
 unfold b2s;rw [bne_self_eq_false,cond_false,a4O l (h.fits (by decide))]
 ·rfl
 ·intro k hk;unfold b28;simp only [w8 _ k hk,cond_true,u0 hk,e8C,cond_false,b00 (h.2 _ (e8F hk)),e8H]
 ·unfold b28;rw [A3];rfl
theorem c7A{l:List Bool}(h:t6 l):b07 l l=some true:=by
 unfold b07;rw [bne_self_eq_false,cond_false,a4O l h]
 ·rfl
 ·intro k hk;unfold b5a;simp only [w8 _ k hk,cond_true,u0 hk,e8C,beq_self_eq_true,cond_false,e8H]
 ·unfold b5a;rw [A3];rfl
theorem c9e{l:List o8}(h:t6 l):b12 l l=some true:=by
 unfold b12 b9Q;rw [bne_self_eq_false,cond_false,a4O l h]
 ·rfl
 ·intro k hk;unfold b7X;simp only [w8 _ k hk,cond_true,u0 hk,e8C,beq_self_eq_true,cond_false,e8H]
 ·unfold b7X;rw [A3];rfl
theorem e3w{l:List m8}(h:t6 l):b3q l l=some true:=by
 unfold b3q;rw [bne_self_eq_false,cond_false,a4O l h]
 ·rfl
 ·intro k hk;unfold b6v;simp only [w8 _ k hk,cond_true,u0 hk,e8C,beq_self_eq_true,cond_false,e8H]
 ·unfold b6v;rw [A3];rfl
theorem d9x{n:j5}(h:Q1 n):b52 n n=some true:=by
 obtain ⟨h1,h2,h3,h4,h5,h6,h7,h8,h9,h10,h11,h12,h13⟩:=h;unfold b52 c2X;simp only [beq_self_eq_true,cond_true,c1l h2.2,c3d h3,c7A (h7.fits (by decide)),c1l h8,b00 h9,c7A (h10.fits (by decide)),c9e (h11.fits (by decide)),b00 h12,c3d h13,e8C]
theorem d53{w:m5}(h:a2C w):b4H w w=some true:=by
 obtain ⟨h1,h2,h3,h4⟩:=h;unfold b4H b9d c0i;simp only [bne_self_eq_false,cond_false,e3w (h4.fits (by decide)),e8C,e8H];rw [a4O w.a9 (h1.fits (by decide)) (fun k hk=>by
  unfold b3c;simp only [w8 _ k hk,cond_true,u0 hk,e8C,d9x (h1.2 _ (e8F hk)),cond_false,e8H]) (by unfold b3c;rw [A3];rfl)]
 simp only [e8C,l8.go];rw [a4O w.b9 (h2.fits (by decide)) (fun k hk=>by
  have:=h2.2 _ (e8F hk);unfold b5A b9V;simp only [w8 _ k hk,cond_true,u0 hk,e8C,beq_self_eq_true,b00 this.2.2.2.2.2.1,c1l this.2.2.2.2.2.2,cond_false,e8H]) (by unfold b5A;rw [A3];rfl)]
 simp only [e8C,l8.go];rw [a4O w.c9 (h3.fits (by decide)) (fun k hk=>by
  unfold b5m;simp only [w8 _ k hk,cond_true,u0 hk,e8C,beq_self_eq_true,c9e ((h3.2 _ (e8F hk)).2.fits (by decide)),cond_false,e8H]) (by unfold b5m;rw [A3];rfl)]
 rfl
theorem d0t{a:n6}(h:t6 a.n.a6)(q:p8):b2z a q=some (L5 a.n.a6 q,a):=by
 unfold b2z;rw [c20 h,e8C,b8Q];cases a.n.a6.findIdx? (G4 q) with
 | none=>rfl
 | some k=>simp
theorem e7X{a:n6}(h:t6 a.n.a6)(q:p8):b32 a q=some (L5 a.n.a6 q,a):=by
 unfold b32;rw [c20 h,e8C,b8Q];cases a.n.a6.findIdx? (G4 q) with
 | none=>rfl
 | some k=>simp
def qA(a:n6)(q:List m4):n6:=⟨{a.n with d8:=q},a.out,a.told⟩
theorem e1v{a:n6}{q:List m4}(h:a.n.d8=q):qA a q=a:=by
 subst h;rfl
theorem c9C{known:List m4}(hk:t6 known):∀(q:List m4) (a:n6),a.n.a6=known->z7 88 D7 q->a.n.d8=q->o9 (fun s:n6=>a3B s) a=some (match Q7 known q with
  | (q',some e)=>.ret (e,true,qA a q')
  | (q',none)=>.brk (qA a q'))
 | [],a,h1,_,h2=>by
  rw [C2 (body:=fun s:n6=>a3B s) (b:=a) (by unfold a3B;rw [h2];rfl)];show _=some (l8.brk (qA a []))
  rw [e1v h2]
 | e::q,a,h1,hq,h2=>by
  have hl:(e::q).length*88<=140737488351232:=hq.1;rw [e9l] at hl;have hb:a3B a=some (bif L5 known e.a0 then .nxt (qA a q) else .ret (e,true,qA a q)):=by
   unfold a3B;rw [h2,show idx (e::q) 0=some e from rfl,show decide ((((e::q).length:Nat):Int)>0)=true by simp,cond_true,e8C,t5 (by simp;omega),show ((e::q).drop (1:Int).toNat).take ((e::q).length-(1:Int).toNat)=q by simp];rw [show (⟨⟨a.n.Id,a.n.Acc,a.n.a6,a.n.Seq,a.n.d9,a.n.a8,a.n.d7,a.n.g9,a.n.c8,a.n.a5,a.n.i7,a.n.i5,a.n.b6,q⟩,a.out,a.told⟩:n6)=qA a q from rfl,d0t (a:=qA a q) (by show t6 a.n.a6;rw [h1];exact hk),e8C,show (qA a q).n.a6=known from h1];cases L5 known e.a0<;>rfl
  unfold Q7;cases hkn:L5 known e.a0
  ·rw [X7 (body:=fun s:n6=>a3B s) (r:=(e,true,qA a q)) (by rw [hb,hkn];rfl)];rfl
  ·rw [C9 (body:=fun s:n6=>a3B s) (t:=qA a q) (by rw [hb,hkn];rfl),c9C hk q (qA a q) h1 ⟨by omega,fun x hx=>hq.2 x (f0e _ hx)⟩ rfl];rfl
def b2I(a:n6)(x:j5×Option m4):m4×Bool×n6:=match x with
 | (n,some e)=>(e,true,⟨n,a.out,a.told⟩)
 | (n,none)=>(zE,false,⟨n,a.out,a.told⟩)
theorem d96{a:n6}(hf:t6 a.n.g9)(hv:∀v∈a.n.g9,0<=v.a8):∀(m k:Nat),a.n.g9.length-k=m->o9 (fun s:Int=>a3W a s) (k:Int)=some (bif (a.n.g9.drop k).any (fun v=>decide (v.a8>0)) then .ret (eN,true,a) else .brk ()):=by
 intro m;induction m with
 | zero =>
  intro k hk;rw [C2 (body:=fun s:Int=>a3W a s) (b:=()) (by unfold a3W;rw [show decide ((k:Int)<(a.n.g9.length:Int))=false by simp;omega];rfl),e8S (by omega)];rfl
 | succ m ih =>
  intro k hk;have hlt:k<a.n.g9.length:=by omega
  have hb:a3W a (k:Int)=some (bif decide (a.n.g9[k].a8>0) then .ret (eN,true,a) else .nxt ((k+1:Nat):Int)):=by
   have h0:=hv _ (e8F hlt);unfold a3W;rw [w8 _ k hlt,cond_true,u0 hlt,e8C,F3 hf hlt,show (a.n.g9[k].a8 != 0)=decide (a.n.g9[k].a8>0) by
    rw [Bool.eq_iff_iff];simp;omega]
   cases decide (a.n.g9[k].a8>0)<;>rfl
  rw [e8X hlt,List.any_cons];cases hd:decide (a.n.g9[k].a8>0)
  ·rw [hd] at hb;rw [C9 (body:=fun s:Int=>a3W a s) hb,ih (k+1) (by omega),e9a]
  ·rw [hd] at hb;rw [X7 (body:=fun s:Int=>a3W a s) hb,f0b];rfl
theorem e02{a:n6}(h:Q1 a.n)(hv:∀v∈a.n.g9,0<=v.a8):b4q a=some (b2I a (a0H a.n)):=by
 obtain ⟨h1,h2,h3,h4,h5,h6,h7,h8,h9,h10,h11,h12,h13⟩:=h;have hk:t6 a.n.a6:=h3.fits (by decide);have hbf:t6 a.n.g9:=h8.fits (by decide);have j1:b29 a=some (b2I a ({a.n with d8:=(Q7 a.n.a6 a.n.d8).1},(Q7 a.n.a6 a.n.d8).2)):=by
  unfold b29;rw [c9C hk _ a rfl h13 rfl];obtain ⟨q,o⟩:=Q7 a.n.a6 a.n.d8;cases o<;>rfl
 have j2:(∀v,a.n.g9[a.n.a6.length]?=some v->¬v.a8>0)->b6L a=some (b2I a (a3N a.n)):=by
  intro hn;have hd:(a.n.g9.drop (a.n.a6.length+1)).any (fun v=>decide (v.a8>0))=(a.n.g9.drop a.n.a6.length).any (fun v=>decide (v.a8>0)):=by
   by_cases hl:a.n.a6.length<a.n.g9.length
   ·rw [e8X hl,List.any_cons,show decide (a.n.g9[a.n.a6.length].a8>0)=false by
     simpa using hn _ (e8D hl),e9a]
   ·rw [e8S (by omega),e8S (by omega)]
  unfold b6L a3N;rw [B6 (by omega) (by have:=h3.1;omega),show ((a.n.a6.length:Int)+1)=((a.n.a6.length+1:Nat):Int) from rfl,d96 hbf hv _ _ rfl,hd];generalize (({a.n with d8:=(Q7 a.n.a6 a.n.d8).1},(Q7 a.n.a6 a.n.d8).2):j5×Option m4)=X at j1 ⊢;cases (a.n.g9.drop a.n.a6.length).any fun v=>decide (v.a8>0)
  ·simp only [cond_false,e8C,l8.go];unfold c2H;cases a.n.i7
   ·exact j1
   ·simp only [cond_true,d0t hk,e8C,e8V];cases L5 a.n.a6 a.n.b6.a0
    ·rfl
    ·exact j1
  ·rfl
 unfold b4q a0H;by_cases hl:a.n.a6.length<a.n.g9.length
 ·rw [w8 _ _ hl,u0 hl,e8D hl];have h0:=hv _ (e8F hl);rw [cond_true,e8C,show (a.n.g9[a.n.a6.length].a8 != 0)=decide (a.n.g9[a.n.a6.length].a8>0) by rw [Bool.eq_iff_iff];simp;omega];simp only;cases hd:decide (a.n.g9[a.n.a6.length].a8>0)
  ·exact j2 (by rw [e8D hl];intro v hv;injection hv with hv;subst hv;simpa using hd)
  ·rfl
 ·rw [show decide ((a.n.a6.length:Int)<(a.n.g9.length:Int))=false by simp;omega,e88 (by omega)];exact j2 (by rw [e88 (by omega)];simp)
theorem NI.accOk{n:j5}(h:NI n):N4 n.Acc=true/\a5a n.Acc:=by
 have:=a0w.2 h;unfold C5 at this;simp only [e8G] at this;exact ⟨by simp_all,h.ok.2.1⟩
theorem b4a{a:v6}(h:N4 a=true)(ho:a5a a)(b:Int):a9L a b=some (match H6 a b with|some x=>(x,true)|none=>(a,false)):=by
 unfold a9L H6 a9q;rw [d0R ho,e8C,h,b3T ho,K9];simp only [e8H,cond_false,e8C];cases n9 b 1 3000
 ·rfl
 ·cases hd:decide (b<a.i4)
  ·rw [show decide (a.i4<=b)=true by simp at hd ⊢;omega];rfl
  ·rw [show decide (a.i4<=b)=false by simp at hd ⊢;omega];rfl
theorem d3L{a:v6}(h:N4 a=true)(ho:a5a a)(b:Int):c0k a b=some (match H6 a b with|some x=>(x,true)|none=>(a,false)):=b4a h ho b
theorem c8m(slot:Nat)(hs:slot<40):∀(m:Nat) (vs:List m6),slot+1-vs.length=m->o9 (fun s:List m6=>a7o (slot:Int) s) vs=some (.brk (V0 vs (slot+1)))
 | 0,vs,hm=>by
  rw [C2 (body:=fun s:List m6=>a7o (slot:Int) s) (b:=vs) (by unfold a7o;rw [show decide ((vs.length:Int)<=(slot:Int))=false by simp;omega];rfl)];unfold V0;rw [hm];simp
 | m+1,vs,hm=>by
  rw [C9 (body:=fun s:List m6=>a7o (slot:Int) s) (t:=vs++[v0]) (by unfold a7o;rw [show decide ((vs.length:Int)<=(slot:Int))=true by simp;omega,cond_true,t5 (by omega)];rfl),c8m slot hs m _ (by simp;omega)];unfold V0;rw [e8O,e9z,show slot+1-vs.length=(slot+1-(vs.length+1))+1 by omega,e9Y,e8R];rfl
theorem d2j{a:v6}(h:N4 a=true)(ho:a5a a)(hl:a.a5.length<=40){b s:Int}(hb:G8 b){e:m4}(he:D7 e):b2Q a b s e=some (match M5 a b s e with|some x=>(x,true)|none=>(a,false)):=by
 unfold b2Q M5;rw [d3L h ho,e8C,K9,a4x he.f,b3T ho];cases hp:H6 a b with
 | none=>cases n9 s 0 39&&x9 e<;>rfl
 | some x =>
  obtain ⟨rfl,hb1,hb2,hb3⟩:=a5m hp;simp only [e8H,cond_false,e8C];cases hs:n9 s 0 39
  ·rfl
  cases x9 e
  ·rfl
  obtain ⟨k,rfl⟩:∃k:Nat,s=(k:Int):=⟨s.toNat,by rw [J1] at hs;omega⟩
  rw [J1] at hs;have hlen:=b9b a.a5 (k+1);have hk:k<(V0 a.a5 (k+1)).length:=by rw [hlen];omega
  simp only [e8H,Bool.and_self,cond_false,cond_true,e8C,e9w,e82];rw [c8m k (by omega) _ _ rfl];simp only [e8C,l8.go,c2w];rw [u0 hk,e8C,e82,b3T (x:=⟨b,(V0 a.a5 (k+1)).set k ⟨b,e⟩⟩) ⟨hb,Z2 (by rw [e9N,hlen];omega) (by
   intro v hv;rcases List.mem_or_eq_of_mem_set hv with q|q
   ·rcases c1B q with q|q
    ·exact ho.2.2 v q
    ·rw [q];exact c4D
   ·rw [q];exact ⟨hb,he⟩)⟩]
  rfl
theorem a6x{a:n6}(h:a.out.length<=1000)(to:Int)(m:j7):a2Z a to m=some ⟨a.n,a.out++[{m with d7:=a.n.Id,To:=to}],a.told⟩:=by
 unfold a2Z;rw [t5 (by omega)]
def a0l(m:j7)(a:n6)(t:Int):n6:=bif t != a.n.Id then ⟨a.n,a.out++[{m with d7:=a.n.Id,To:=t}],a.told⟩ else a
theorem c6g(m:j7)(a:n6)(t:Int):(a0l m a t).out.length<=a.out.length+1:=by
 unfold a0l;cases t != a.n.Id<;>simp
theorem a5u{a:n6}(hid:0<=a.n.Id/\a.n.Id<=2)(h:a.out.length<=900)(m:j7):a2h a m=some ⟨a.n,a.out++I9 a.n.Id m,a.told⟩:=by
 have e:∀(a:n6) (t:Int),a.out.length<=1000->0<=t->t<3->a4l m t a=some (.nxt (t+1,a0l m a t)):=by
  intro a t ho h0 h1;unfold a4l c2C a0l;rw [show decide (t<3)=true by simpa using h1,cond_true,a6x ho,B6 (by omega) (by omega)];cases t != a.n.Id<;>rfl
 have l1:=c6g m a 0;have l2:=c6g m (a0l m a 0) (0+1);have h0:=C9 (body:=fun s:Int×n6=>a4l m s.1 s.2) (s:=(0,a)) (e a 0 (by omega) (by omega) (by omega));have h1:=C9 (body:=fun s:Int×n6=>a4l m s.1 s.2) (s:=(0+1,a0l m a 0)) (e (a0l m a 0) (0+1) (by omega) (by omega) (by omega));have h2:=C9 (body:=fun s:Int×n6=>a4l m s.1 s.2) (s:=(0+1+1,a0l m (a0l m a 0) (0+1))) (e (a0l m (a0l m a 0) (0+1)) (0+1+1) (by omega) (by omega) (by omega));have h3:=X7 (body:=fun s:Int×n6=>a4l m s.1 s.2) (s:=(0+1+1+1,a0l m (a0l m (a0l m a 0) (0+1)) (0+1+1))) (show a4l m (0+1+1+1) _=_ from rfl);unfold a2h;rw [h0,h1,h2,h3];obtain ⟨n,o,t⟩:=a;simp only [e8C,l8.go];have hid':n.Id=0\/n.Id=1\/n.Id=2:=by have:=hid.1;have:=hid.2;simp only at *;omega
 rcases hid' with q|q|q<;>simp [a0l,I9,q]
theorem c7K{a:n6}(h:0<=a.n.Id/\a.n.Id<=2):b1s a=some (a7Z a.n.Id,a):=by
 obtain ⟨y,hy⟩:=c1C h;unfold b1s;rw [t5 (by decide),hy];rfl
theorem c0w(a:n6):a9Z a=some ⟨a4d a.n,a.out,a.told⟩:=rfl
theorem b7L(a:n6)(b:Int):a8K a b=some ⟨N2 a.n b,a.out,a.told⟩:=by
 unfold a8K N2;rw [c0w];cases a.n.d9 != 0
 ·rfl
 ·cases decide (b>a.n.a8)<;>rfl
theorem a1k.bal0{n:j5}(h:a1k n):∀v∈n.g9,0<=v.a8:=fun v hv=>(h.best.2 v hv).bal.1
def V2(a:n6)(x:j5×List j7):n6:=⟨x.1,a.out++x.2,a.told⟩
theorem a6z(a:n6):V2 a (a.n,[])=a:=by
 unfold V2;rw [e9b]
theorem b0M{a:n6}(h:NI a.n)(ho:a.out.length<=900):a5G a=some (V2 a (M4 a.n)):=by
 unfold a5G M4;rw [show decide ((a.n.a6.length:Int)>=40)=decide (40<=a.n.a6.length) by simp;omega];cases a.n.d9 != 2
 ·simp only [cond_false,e9a];cases hlt:decide (40<=a.n.a6.length)
  ·simp only [cond_false,e02 h.ok h.ld.bal0,e8C];obtain ⟨q,hq,hql,hqm,hqe⟩:=b0W a.n;cases hx:a0H a.n with
   | mk x o =>
   rw [hx] at hq hqe;have hq:x={a.n with d8:=q}:=hq;subst hq;cases o with
   | none =>
    simp only [b2I,e8W,cond_true,V2];rw [e9b]
   | some e =>
    have he:=(hqe e rfl).ok h.ok;obtain ⟨c1,c2⟩:=h.accOk;simp only [b2I,e8H,cond_false];rw [d2j (a:=a.n.Acc) c1 c2 h.vl h.ok.2.2.2.2.2.1 he,e8C];simp only [a6M];cases hc:M5 a.n.Acc a.n.a8 (a.n.a6.length:Int) e with
    | none =>
     simp only [e8W,cond_true,c0w,e8C,V2];rw [e9b]
    | some x =>
     simp only [e8H,cond_false];rw [c7K (by exact h.id),e8C];simp only;rw [a5u (by exact h.id) (by exact ho)];rfl
  ·simp only [cond_true];rw [a6z]
 ·simp only [cond_true,f0b];rw [a6z]
def a2v(a:n6)(x:j5×List j7×List m8):n6:=⟨x.1,a.out++x.2.1,a.told++x.2.2⟩
theorem b3o(a:n6):a2v a (a.n,[],[])=a:=by
 unfold a2v;rw [e9b,e9b]
theorem d2Z{a:n6}(h:NI a.n)(ho:a.out.length<=900)(ht:a.told.length<=900):b4G a=some (a2v a ((M4 (T1 a.n).1).1,(M4 (T1 a.n).1).2,(T1 a.n).2)):=by
 have hk:t6 a.n.a6:=h.ok.2.2.1.fits (by decide);obtain ⟨hl,he⟩:=a6k h.list;have j1:∀b:n6,NI b.n->b.out.length<=900->b34 b=some (V2 b (M4 b.n)):=by
  intro b hb hbo;unfold b34;rw [b0M hb hbo];rfl
 unfold b4G T1;rw [c20 hk,e8C];cases hb:a.n.i7
 ·simp only [cond_false,e8C,l8.go];rw [j1 a h ho];simp only [V2,a2v,e9b]
 ·cases hf:a.n.a6.findIdx? (G4 a.n.b6.a0) with
  | none =>
   simp only [cond_true];rw [show decide ((-1:Int)>=0)=false from rfl];simp only [cond_false,e8C,l8.go];rw [j1 a h ho];simp only [V2,a2v,e9b]
  | some k =>
   obtain ⟨hkl,h1,h2⟩:=b2y hf;have hlen:(z5 a.n.a6).2.length=a.n.a6.length:=by
    have:=(a3C hl he a.n.a6.length (e9h _)).2.1;rwa [e85] at this
   have hc:idx (z5 a.n.a6).2 (k:Int)=some (Q8 a.n.a6 k):=by
    rw [u0 (by omega)];unfold Q8;rw [e8D (by omega)];rfl
   have hj2:∀v:Int,b7S a (Q8 a.n.a6 k) v=some (.brk ⟨a4L a.n,a.out,a.told++[⟨a.n.Id,a.n.b6.a0,Q8 a.n.a6 k,v⟩]⟩):=by
    intro v;unfold b7S;rw [t5 (by omega)];rfl
   have hv:a0M a.n.a6 a.n.b6.a0=a.n.a6[k].b8.f0:=by
    unfold a0M;rw [hf];simp only [e8D hkl]
   simp only [cond_true];rw [show decide ((k:Int)>=0)=true by simp];simp only [cond_true];rw [c5u (okEntries.f h.ok.2.2.1) hl he,e8C,hc,e8C,u0 hkl,hv];cases Q8 a.n.a6 k==0
   ·simp only [cond_false,e8C,l8.go,hj2];exact j1 ⟨a4L a.n,a.out,_⟩ h.freeN ho
   ·simp only [cond_true,e8C,l8.go,hj2];exact j1 ⟨a4L a.n,a.out,_⟩ h.freeN ho
theorem d0p{a:n6}(h:NI a.n)(hl:a.n.a6.length<40){e:m4}(he:x9 e=true)(ho:a.out.length<=900)(ht:a.told.length<=900):b1h a e=some (a2v a (X8 a.n e)):=by
 have hk:=d2Z (a:=⟨H4 a.n e,a.out,a.told⟩) (h.know he hl) ho ht;unfold b1h;rw [t5 (by omega)];unfold H4 at hk;cases hp:a.n.d9==3
 ·rw [hp] at hk;simp only [cond_false,e8C,l8.go] at hk ⊢;refine hk.trans ?_;unfold X8 H4;rw [hp];rfl
 ·rw [hp] at hk;simp only [cond_true,e8C,l8.go] at hk ⊢;refine hk.trans ?_;unfold X8 H4;rw [hp];rfl
theorem R7.two{m:j7}(h:R7 m)(hk:m.a7=2):(m.a5.length<=40/\∀v∈m.a5,VI v)/\m.g7+m.a5.length<=40:=by
 rcases h with q|q|q|q|q|q|q
 ·omega
 ·exact ⟨q.2.2.2.1,q.2.2.2.2⟩
 all_goals exact absurd q.1 (by omega)
theorem R7.five{m:j7}(h:R7 m)(hk:m.a7=5):m.g7<40/\x9 m.i0=true:=by
 rcases h with q|q|q|q|q|q|q
 ·omega
 ·omega
 ·omega
 ·exact ⟨q.2.2.1,q.2.2.2.1⟩
 all_goals exact absurd q.1 (by omega)
theorem d7W{a:n6}(h:NI a.n){m:j7}(hm:MI m)(ho:a.out.length<=900)(hto:m.To=a.n.Id):b3J a m=some (V2 a (a2F a.n m)):=by
 obtain ⟨c1,c2⟩:=h.accOk;have hs:=hm.sl;unfold b3J a2F;rw [b4a c1 c2,e8C];cases hp:H6 a.n.Acc m.a8 with
 | none =>
  simp only [e8W,cond_true];rw [a6x (by omega)];simp only [e8C,V2,K3,hto]
 | some x =>
  obtain ⟨rfl,_⟩:=a5m hp;simp only [e8H,cond_false,b7L,e8C];have hy:∀(n:j5) (vs:List m6),n.Id=a.n.Id->b6p m ⟨n,a.out,a.told⟩ vs=some ⟨n,a.out++[K3 m ⟨2,0,0,m.a8,m.g7,zE,vs⟩],a.told⟩:=by
   intro n vs hn;unfold b6p;rw [a6x (a:=⟨n,a.out,a.told⟩) (by exact Nat.le_trans ho (by decide))];simp only [e8C,K3,hto,hn]
  have hid:(N2 (⟨a.n.Id,⟨m.a8,a.n.Acc.a5⟩,a.n.a6,a.n.Seq,a.n.d9,a.n.a8,a.n.d7,a.n.g9,a.n.c8,a.n.a5,a.n.i7,a.n.i5,a.n.b6,a.n.d8⟩) m.a8).Id=a.n.Id:=a5A _ _;obtain ⟨k,hk⟩:∃k:Nat,m.g7=(k:Int):=⟨m.g7.toNat,by omega⟩
  cases hd:decide (m.g7<(a.n.Acc.a5.length:Int))
  ·simp only [cond_false,e8C,l8.go];rw [hy _ _ hid,e8S (by simp at hd;omega)];rfl
  ·simp only [cond_true];rw [t5 (by simp at hd;omega)];simp only [e8C,l8.go];rw [hy _ _ hid,c0T];rfl
theorem e4f{a:n6}(h:NI a.n){m:j7}(hm:MI m)(ho:a.out.length<=900)(hto:m.To=a.n.Id):b4w a m=some (V2 a (a3h a.n m)):=by
 obtain ⟨c1,c2⟩:=h.accOk;unfold b4w a3h;rw [d2j c1 c2 h.vl hm.ok.2.2.2.1 hm.ok.2.2.2.2.2.1,e8C];cases M5 a.n.Acc m.a8 m.g7 m.i0 with
 | none =>
  simp only [e8W,cond_true];rw [a6x (by omega)];simp only [e8C,V2,K3,hto]
 | some x =>
  simp only [e8H,cond_false,b7L,e8C];rw [a6x (by simp only;omega)];simp only [e8C,V2,K3,hto,a5A]
theorem c8y:∀(l:List Bool) (hl:t6 l) (m k:Nat) (c:Int),k+m=l.length->0<=c->c<=k->o9 (fun s:Int×Int=>a30 l s.1 s.2) (c,(k:Int))=some (.brk (c+(((l.drop k).filter (· == true)).length:Int)))
 | l,hl,0,k,c,hk,h0,h1=>by
  have:k=l.length:=by omega
  subst this;rw [C2 (body:=fun s:Int×Int=>a30 l s.1 s.2) (b:=c) (by unfold a30;rw [A3];rfl)];simp
 | l,hl,m+1,k,c,hk,h0,h1=>by
  have hlt:k<l.length:=by omega
  have hf:=hl;unfold t6 at hf;have hb:a30 l c (k:Int)=some (.nxt (bif l[k] then c+1 else c,((k+1:Nat):Int))):=by
   unfold a30 c0F;rw [w8 _ k hlt,cond_true,u0 hlt,e8C,F3 hl hlt,B6 (by omega) (by omega)];cases l[k]<;>rfl
  rw [C9 (body:=fun s:Int×Int=>a30 l s.1 s.2) hb,c8y l hl m (k+1) _ (by omega) (by cases l[k]<;>simp<;>omega) (by cases l[k]<;>simp<;>omega),e8X hlt];cases l[k]<;>simp<;>omega
theorem c8Z{l:List Bool}(h:t6 l):∃c,b1o l=some c/\decide (c>=2)=N0 l:=by
 unfold b1o;rw [show o9 (fun s:Int×Int=>a30 l s.1 s.2) (0,0)=_ from c8y l h l.length 0 0 (by omega) (by omega) (by omega)];refine ⟨_,rfl,?_⟩;unfold N0;rw [Bool.eq_iff_iff];simp only [e9F,decide_eq_true_eq];omega
theorem e3d{a b:List m6}(ha:a.length<=40/\∀v∈a,VI v)(hb:b.length<=40/\∀v∈b,VI v):b3U a b=some (D6 a b):=by
 have oa:=a3e (by omega) ha.2;have ob:=a3e (by omega) hb.2;have hlen:=a9D a b;have hok:z7 96 P7 (D6 a b):=a3e (by omega) fun v hv=>(b0X hv).elim (ha.2 v) (hb.2 v)
 unfold b3U;rw [b0V oa,e8C,a7v.2 ha,b0V ob,e8C,a7v.2 hb];simp only [e8H,cond_false];rw [a5c (body:=fun s:(List m6)×Int=>a4M a b s.1 s.2) (D6 a b) (by unfold t6;omega) (fun l=>l) (by
  intro k hk;have hget:=b51 a b k;rw [e8D hk] at hget;have hj1:∀l:List m6,c1I (k:Int) l=some (.nxt (l,m7 ((k:Int)+1))):=fun _=>rfl
  have htl:(((D6 a b).take k).length+1)*96<=140737488355328:=by rw [e83];omega
  show a4M a b ((D6 a b).take k) (k:Int)=_
  have hstart:a4M a b ((D6 a b).take k) (k:Int)=b3f a b ((D6 a b).take k) (k:Int):=by
   unfold a4M;by_cases h1:k<a.length
   ·rw [w8 _ k h1];rfl
   ·rw [show decide ((k:Int)<(a.length:Int))=false by simp;omega,w8 _ k (by omega)];rfl
  rw [hstart];unfold b3f;by_cases h1:k<a.length
  ·rw [show decide ((k:Int)>=(a.length:Int))=false by simp;omega,u0 h1];rw [e8D h1] at hget;by_cases h2:k<b.length
   ·rw [show decide ((k:Int)>=(b.length:Int))=false by simp;omega,u0 h2];rw [e8D h2] at hget;injection hget with hget;simp only [cond_false,e8C,t5 htl];rw [hget,show decide (a[k].a8>=b[k].a8) = !decide (b[k].a8>a[k].a8) by rw [Bool.eq_iff_iff];simp];cases decide (b[k].a8>a[k].a8)<;>rfl
   ·rw [show decide ((k:Int)>=(b.length:Int))=true by simp;omega];rw [e88 (by omega)] at hget;injection hget with hget;simp only [cond_false,cond_true,e8C,t5 htl];rw [hget];rfl
  ·have h2:k<b.length:=by omega
   rw [show decide ((k:Int)>=(a.length:Int))=true by simp;omega,u0 h2];rw [e88 (by omega),e8D h2] at hget;injection hget with hget;simp only [cond_true,e8C,t5 htl];rw [hget];rfl) (by
  show a4M a b (D6 a b) ((D6 a b).length:Int)=_
  unfold a4M;rw [show decide (((D6 a b).length:Int)<(a.length:Int))=false by simp;omega,show decide (((D6 a b).length:Int)<(b.length:Int))=false by simp;omega];rfl)]
 simp only [e8C,l8.go,b9u,b6k hok]
theorem e33{a:n6}(h:NI a.n){m:j7}(hm:MI m)(hk:m.a7=2)(ho:a.out.length<=900):b7J a m=some (V2 a (a2T a.n m)):=by
 have hkd:=hm.kd.two hk;have hs:=hm.sl;have hf:=hm.fr;have hright:=c6Y h hm hk;unfold b7J;unfold a2T at hright ⊢;by_cases p1:a.n.d9=1
 ·rw [show (a.n.d9 != 1)=false by simp [p1],e9a] at hright;rw [show (a.n.d9 != 1)=false by simp [p1],e9a];cases hb:m.a8 != a.n.a8
  ·rw [hb] at hright;simp only [cond_false] at hright ⊢;have hl:a.n.d7.length=3/\Own a.n:=by
    rcases h.ld with q|q|q|q
    ·omega
    ·exact ⟨q.2.2.1,q.2.1⟩
    all_goals exact absurd q.1 (by omega)
   obtain ⟨f,hff⟩:∃f:Nat,m.d7=(f:Int):=⟨m.d7.toNat,by omega⟩
   have hvo:(e8E m.g7.toNat v0++m.a5).length<=40/\∀v∈e8E m.g7.toNat v0++m.a5,VI v:=⟨by simp;omega,fun v hv=>(List.mem_append.1 hv).elim (fun q=>by rw [(e9f.1 q).2];exact .inl rfl) (hkd.1.2 v)⟩
   obtain ⟨c,c1,c2⟩:=c8Z (l:=a.n.d7.set (f:Int).toNat true) (b5s (by simp;omega));rw [hff] at hright;rw [hff,u0 (show f<a.n.d7.length by omega),e8C,t5 (by omega),t5 (by simp;omega),show (⟨0,⟨false,⟨0,0⟩,⟨[],[],0,0⟩⟩⟩:m6)=v0 from rfl,e3d ⟨hl.2.bl,hl.2.bs⟩ hvo,e8C,c1,e8C,c2];cases htw:N0 (a.n.d7.set (f:Int).toNat true)
   ·simp only [cond_false,V2];rw [e9b]
   ·rw [htw] at hright;simp only [cond_true] at hright ⊢;have hni:NI ⟨a.n.Id,a.n.Acc,a.n.a6,a.n.Seq,2,a.n.a8,[],D6 a.n.g9 (e8E m.g7.toNat v0++m.a5),a.n.c8,a.n.a5,a.n.i7,a.n.i5,a.n.b6,a.n.d8⟩:=by
     rcases h.ld with q|q|q|q
     ·omega
     ·exact ⟨h.id,h.pr,h.vl,h.vs,h.kl,h.ks,h.sq,h.ql,h.qs,.inr (.inr (.inl ⟨rfl,⟨q.2.1.b1,q.2.1.b2,q.2.1.mod,q.2.1.pr,by have:=a9D a.n.g9 (e8E m.g7.toNat v0++m.a5);have:=hl.2.bl;have:=hvo.1;simp only at *;omega,fun v hv=>(b0X hv).elim (hl.2.bs v) (hvo.2 v)⟩,rfl,q.2.2.2.2.1,q.2.2.2.2.2⟩)),h.wt⟩
     all_goals exact absurd q.1 (by omega)
    rw [b0M (a:=⟨⟨a.n.Id,a.n.Acc,a.n.a6,a.n.Seq,2,a.n.a8,[],D6 a.n.g9 (e8E m.g7.toNat v0++m.a5),a.n.c8,a.n.a5,a.n.i7,a.n.i5,a.n.b6,a.n.d8⟩,a.out,a.told⟩) hni ho];rfl
  ·simp only [cond_true,cond_false];rw [a6z]
 ·rw [show (a.n.d9 != 1)=true by simpa using p1];simp only [cond_true,f0b];rw [a6z]
theorem e2P{a:n6}(h:NI a.n){m:j7}(hm:MI m)(ho:a.out.length<=800)(ht:a.told.length<=800):b5T a m=some (a2v a (a4g a.n m)):=by
 have hf:=hm.fr;unfold b5T a4g;by_cases p3:a.n.d9=3
 ·rw [show (a.n.d9 != 3)=false by simp [p3],e9a];cases hb:m.a8 != a.n.a8
  ·simp only [cond_false,e9a];cases hs:m.g7 != (a.n.a6.length:Int)
   ·simp only [cond_false];have hsl:m.g7=(a.n.a6.length:Int):=by simpa using hs
    obtain ⟨q1,q2,q3,q4,q5,q6,q7⟩:a.n.d9=3/\Own a.n/\a.n.d7=[]/\x9 a.n.c8=true/\a.n.a5.length=3/\a.n.a5[a.n.Id.toNat]?=some true/\a.n.a6.length<40:=by
     rcases h.ld with q|q|q|q
     ·omega
     ·omega
     ·omega
     ·exact q
    obtain ⟨f,hff⟩:∃f:Nat,m.d7=(f:Int):=⟨m.d7.toNat,by omega⟩
    obtain ⟨c,c1,c2⟩:=c8Z (l:=a.n.a5.set (f:Int).toNat true) (b5s (by simp;omega));rw [hff,u0 (show f<a.n.a5.length by omega),e8C,c1,e8C,c2];cases htw:N0 (a.n.a5.set (f:Int).toNat true)
    ·simp only [cond_false,a2v,e9b]
    ·simp only [cond_true];have hid:=h.id;have hni:NI ⟨a.n.Id,a.n.Acc,a.n.a6,a.n.Seq,a.n.d9,a.n.a8,a.n.d7,a.n.g9,a.n.c8,a.n.a5.set (f:Int).toNat true,a.n.i7,a.n.i5,a.n.b6,a.n.d8⟩ :=
      ⟨h.id,h.pr,h.vl,h.vs,h.kl,h.ks,h.sq,h.ql,h.qs,.inr (.inr (.inr ⟨q1,q2,q3,q4,by simpa using q5,by
       show (a.n.a5.set f true)[a.n.Id.toNat]?=some true
       rw [List.getElem?_set];split
       ·rw [if_pos (by omega)]
       ·exact q6,q7⟩)),h.wt⟩
     have l1:=Z8 a.n.Id ⟨5,0,0,0,m.g7,a.n.c8,[]⟩;rw [a5u (by exact hid) (by simp only;omega),e8C];simp only;rw [d0p (a:=⟨⟨a.n.Id,a.n.Acc,a.n.a6,a.n.Seq,a.n.d9,a.n.a8,a.n.d7,a.n.g9,a.n.c8,a.n.a5.set (f:Int).toNat true,a.n.i7,a.n.i5,a.n.b6,a.n.d8⟩,a.out++I9 a.n.Id ⟨5,0,0,0,m.g7,a.n.c8,[]⟩,a.told⟩) hni q7 q4 (by simp only [e8O];omega) (by simp only;omega),e8C,hsl];simp only [a2v,e8R]
   ·simp only [cond_true];rw [b3o]
  ·simp only [cond_true,cond_false,f0b];rw [b3o]
 ·rw [show (a.n.d9 != 3)=true by simpa using p3];simp only [cond_true,f0b];rw [b3o]
theorem e7Y{a:n6}(h:NI a.n){m:j7}(hm:MI m)(hk:m.a7=5)(ho:a.out.length<=800)(ht:a.told.length<=800)(hto:m.To=a.n.Id):b4Z a m=some (a2v a (a4r a.n m)):=by
 have hkd:=hm.kd.five hk;unfold b4Z a4r;cases h1:decide (m.g7<(a.n.a6.length:Int))
 ·cases h2:decide (m.g7>(a.n.a6.length:Int))
  ·simp only [cond_false];have hl:a.n.a6.length<40:=by simp at h1 h2;omega
   rw [d0p h hl hkd.2 (by omega) (by omega)];rfl
  ·simp only [cond_false,cond_true];rw [a6x (by omega)];simp only [e8C,a2v,K3,hto,e9b]
 ·simp only [cond_true];rw [b3o]
theorem e5L{a:n6}(h:NI a.n){m:j7}(hm:MI m)(hk:m.a7=7)(ho:a.out.length<=800):b4e a m=some (V2 a (a27 a.n m)):=by
 have hql:=h.ql;obtain ⟨e1,e2⟩:x9 m.i0=true/\m.i0.i8=false:=by
  rcases hm.kd with q|q|q|q|q|q|q
  ·omega
  ·omega
  ·omega
  ·omega
  ·omega
  ·exact ⟨q.2.2.2.1,q.2.2.2.2.1⟩
  ·omega
 unfold b4e a27;rw [show decide ((a.n.d8.length:Int)>=4)=decide (4<=a.n.d8.length) by simp;omega,e7X (h.ok.2.2.1.fits (by decide))];cases a.n.d9==0
 ·simp only [cond_false,e9a];cases h4:decide (4<=a.n.d8.length)
  ·simp only [cond_false,e9a,e8C];cases L5 a.n.a6 m.i0.a0
   ·simp only [cond_false];have hni:NI {a.n with d8:=a.n.d8++[m.i0]}:=h.queue (by simp at h4 ⊢;omega) (by
     intro e he;rcases List.mem_append.1 he with q|q
     ·exact h.qs e q
     ·rw [e8J.1 q];exact ⟨e1,e2⟩)
    rw [t5 (by omega),b0M (a:=⟨{a.n with d8:=a.n.d8++[m.i0]},a.out,a.told⟩) hni (by simp only;omega)];rfl
   ·simp only [cond_true];rw [a6z]
  ·simp only [cond_true,f0b];rw [a6z]
 ·simp only [cond_true,f0b];rw [a6z]
theorem b6P{n:j5}(h:NI n):a6g n=some ⟨n,[],[]⟩:=by
 unfold a6g;rw [b6D h.ok];rfl
theorem e78{l:List j7}(hl:l.length<=1000)(h:∀m∈l,MI m):z7 152 X9 l:=Z2 (by omega) fun m hm=>(h m hm).ok
theorem c2I{a:n6}(h:NI a.n)(ho:a.out.length<=1000)(hm:∀m∈a.out,MI m)(ht:a.told.length<=1000):a0W a=some (a.n,a.out,a.told,a):=by
 unfold a0W;rw [b6D h.ok,e8C,c7r (e78 ho hm),e8C,c3h (by omega)];rfl
theorem b75{n:j5}{x:j5×List j7}(h:P4 n x)(hl:x.2.length<=1000):a0W ⟨x.1,x.2,[]⟩=some (x.1,x.2,[],⟨x.1,x.2,[]⟩):=c2I h.ni hl h.ms (by simp)
theorem c00(l:List q8)(prog:List o8):∀(f k:Nat) (regs:List Int) (rs:List p7) (ps:List n8),(a1K l prog f k regs rs ps).Code≠3
 | 0,_,_,_,_=>by simp [a1K]
 | f+1,k,regs,rs,ps=>by
  unfold a1K;cases prog[k]? with
  | none=>simp
  | some i =>
   simp only;cases i.a7==6
   ·cases i.a7==7
    ·cases (H3 l i regs rs ps).1.all I0
     ·simp
     ·exact c00 l prog f _ _ _ _
    ·simp
   ·exact c00 l prog f _ _ _ _
theorem e5e{l:List q8}(hb:F4 l=true)(p:List o8):((E5 l p).Code==3) = !C7 p:=by
 unfold E5;rw [hb,e8V];cases C7 p
 ·rfl
 ·simpa using c00 l p _ _ _ _ _
theorem e5p{n:j5}(h:NI n):b6b n=some (z5 n.a6).1:=by
 unfold b6b;rw [a6G h.ok,e8C,a0w.2 h];simp only [e8H,cond_false];rw [e3c (okEntries.f h.ok.2.2.1),h.list];rfl
theorem d0B{prog:List o8}(h:z7 32 okT prog):t6 prog:=h.fits (by decide)
theorem e6d{n:j5}(h:NI n){prog:List o8}(hp:z7 32 okT prog):b3j n prog=some ((M9 n prog).1,(M9 n prog).2,[]):=by
 have hf:=d0B hp;have hs:=h.sq;have hr:=b5X h hf;have hlen:=b86 n prog;have e0:=c2I (a:=⟨n,[],[]⟩) h (by simp) (by simp) (by simp);rw [a2w] at hr hlen;unfold b3j;rw [a6G h.ok,e8C,a0w.2 h,b6P h,a2w,b5x hf,e5p h];simp only [e8H,cond_false,e8C];have hc:((E5 (a1w n) prog).Code==3) = !C7 prog:=e5e (b39 h) prog;rw [show (z5 n.a6).1.g8=a1w n from rfl,e5b (a4J (b39 h)) hf];unfold K8 at hr hlen ⊢;rw [hc] at hr hlen ⊢;cases hb:n.i7
 ·cases hq:n.Seq==1000
  ·cases hpo:C7 prog
   ·simp only [e8W,cond_true,cond_false,e0,e8C];rfl
   ·rw [hb,hq,hpo] at hr hlen;have hca:K8 n prog=true:=by unfold K8;rw [hc,hb,hq,hpo];rfl
    have hn:=h.asked hf hca;simp only [e8H,e8W,Bool.or_false,cond_true,cond_false,e8C] at hr hlen ⊢;rw [B6 (by omega) (by omega)];have ha:(⟨⟨n.Id,n.Acc,n.a6,n.Seq+1,n.d9,n.a8,n.d7,n.g9,n.c8,n.a5,true,prog,⟨false,⟨n.Id,n.Seq+1⟩,E5 (a1w n) prog⟩,n.d8⟩,[],[]⟩:n6)=⟨N7 n prog,[],[]⟩:=rfl;have hj:∀x:j5×List j7,P4 n x->x.2.length<=3->b5Z ⟨x.1,x.2,[]⟩=some (x.1,x.2,[]):=by
     intro x hx hl;unfold b5Z;rw [b75 hx (by omega)];rfl
    rw [ha];cases h2:n.d9==2
    ·rw [h2] at hr hlen;cases h0:n.d9==0
     ·rw [h0] at hr hlen;simp only [cond_false,e8C,l8.go] at hr hlen ⊢;exact hj _ hr hlen
     ·rw [h0] at hr hlen;simp only [cond_false,cond_true] at hr hlen ⊢;rw [a5u (a:=⟨N7 n prog,[],[]⟩) (by exact h.id) (by simp)];simp only [e8C,l8.go,e9g];exact hj (N7 n prog,_) hr hlen
    ·rw [h2] at hr hlen;simp only [cond_true] at hr hlen ⊢;rw [b0M (a:=⟨N7 n prog,[],[]⟩) hn (by simp)];simp only [e8C,l8.go,V2,e9g];exact hj _ hr hlen
  ·simp only [cond_true,cond_false,e0,e8C];rfl
 ·simp only [cond_true,e0,e8C];rfl
theorem e7g{b who:Int}(hb:0<=b/\b<=3000)(hw:0<=who/\who<=2):b61 b who=some (L6 b who):=by
 have e:∀i:Int,1<=i->i<=4->a1z who (b+i)=some (bif decide (b+i<=3000) then (bif e81 (b+i) 3==who then .ret (b+i) else .nxt (b+(i+1))) else .brk ()):=by
  intro i h1 h3;unfold a1z;rw [show decide (b+i>0)=true by simp;omega,d11,B6 (by omega) (by omega),Int.add_assoc];cases hd:decide (b+i<=3000)
  ·rfl
  ·rw [show V4 (b+i)=e81 (b+i) 3 by
    unfold V4;rw [J1.2 ⟨by omega,by simpa using hd⟩];rfl]
   simp only [cond_true,e8C];cases e81 (b+i) 3==who<;>rfl
 have hmod:∀i:Int,1<=i->e81 (b+i) 3=(b+i) % 3:=fun i hi=>Int.tmod_eq_emod_of_nonneg (by omega)
 have e1:=e 1 (by omega) (by omega);have e2:=e 2 (by omega) (by omega);have e3:=e 3 (by omega) (by omega);have m1:=hmod 1 (by omega);have m2:=hmod 2 (by omega);have m3:=hmod 3 (by omega);unfold b61 L6;rw [show decide (b<0)=false by simp;omega,K9,show n9 who 0 2=true from J1.2 hw,B6 (by omega) (by omega)];simp only [cond_false,e8C,e8H];cases q1:decide (b+1<=3000)
 ·rw [q1] at e1;rw [C2 (body:=fun s:Int=>a1z who s) e1,show decide (b+2<=3000)=false by simp at q1 ⊢;omega,show decide (b+3<=3000)=false by simp at q1 ⊢;omega];rfl
 rw [q1] at e1;cases t1:e81 (b+1) 3==who;case true=>rw [t1] at e1;rw [X7 (body:=fun s:Int=>a1z who s) e1];rfl
 rw [t1] at e1;rw [C9 (body:=fun s:Int=>a1z who s) e1];cases q2:decide (b+2<=3000)
 ·rw [show (1:Int)+1=2 from rfl];rw [q2] at e2;rw [C2 (body:=fun s:Int=>a1z who s) e2,show decide (b+3<=3000)=false by simp at q2 ⊢;omega];rfl
 rw [q2] at e2;rw [show (1:Int)+1=2 from rfl];cases t2:e81 (b+2) 3==who;case true=>rw [t2] at e2;rw [X7 (body:=fun s:Int=>a1z who s) e2];rfl
 rw [t2] at e2;rw [C9 (body:=fun s:Int=>a1z who s) e2,show (2:Int)+1=3 from rfl];cases q3:decide (b+3<=3000)
 ·rw [q3] at e3;rw [C2 (body:=fun s:Int=>a1z who s) e3];rfl
 rw [q3] at e3;have t3:(e81 (b+3) 3==who)=true:=by
  simp only [beq_eq_false_iff_ne,beq_iff_eq] at t1 t2 ⊢;omega
 rw [t3] at e3;rw [X7 (body:=fun s:Int=>a1z who s) e3,t3];rfl
theorem d9t{n:j5}(h:NI n):b6Y n=some (a0j n):=by
 have hr:=b5w h;have hl:=b58 n;have hj:∀x:j5×List j7,P4 n x->x.2.length<=3->a94 ⟨x.1,x.2,[]⟩=some x:=by
  intro x hx hl;unfold a94;rw [b75 hx (by omega)];rfl
 unfold b6Y;unfold a0j at hr hl ⊢;rw [a6G h.ok,e8C,a0w.2 h,b6P h,e7g h.pr h.id];simp only [e8H,cond_false,e8C];cases hd:decide (L6 n.Acc.i4 n.Id<0)
 ·rw [hd] at hr hl;simp only [decide_eq_false_iff_not] at hd;obtain ⟨c1,c2⟩:=h.accOk;rcases c0V h.pr h.id with q|⟨q1,q2,q3,q4⟩
  ·omega
  ·have hpr:=h.pr;rw [show decide (L6 n.Acc.i4 n.Id>=0)=true by simp;omega];simp only [cond_true,cond_false,c0w,e8C] at hr hl ⊢;rw [b4a (a:=(a4d n).Acc) c1 c2,show H6 (a4d n).Acc (L6 n.Acc.i4 n.Id)=some ⟨L6 n.Acc.i4 n.Id,n.Acc.a5⟩ from b7N (a:=n.Acc) (by omega) q3 (by omega),e8C,c7K (by exact h.id),e8C];simp only;have ha:=a5u (a:=⟨⟨n.Id,⟨L6 n.Acc.i4 n.Id,n.Acc.a5⟩,n.a6,n.Seq,1,L6 n.Acc.i4 n.Id,a7Z n.Id,n.Acc.a5,zE,[],n.i7,n.i5,n.b6,n.d8⟩,[],[]⟩) h.id (by simp) ⟨1,0,0,L6 n.Acc.i4 n.Id,(n.a6.length:Int),zE,[]⟩;refine (congrArg (fun x:Option n6=>((x.bind fun all=>some (l8.brk all)).bind fun x:l8 (j5×List j7) n6=>x.go some fun j=>a94 j)) ha).trans ?_;simp only [e8C,l8.go,e9g];have e:=hj _ hr hl;exact e
 ·rw [hd] at hr hl;rw [show decide (L6 n.Acc.i4 n.Id>=0)=false by simp at hd ⊢;omega];simp only [cond_false,cond_true,e8C,l8.go] at hr hl ⊢;exact hj (n,[]) hr hl
theorem e1D{n:j5}(h:NI n):b7D n=some ((V5 n).1,(V5 n).2,[]):=by
 have hr:=b7Y h;have hl:=c0M n;have hj:∀x:j5×List j7,P4 n x->x.2.length<=6->b6Q ⟨x.1,x.2,[]⟩=some (x.1,x.2,[]):=by
  intro x hx hl;unfold b6Q;rw [b75 hx (by omega)];rfl
 have l0:=Z8 n.Id ⟨8,0,0,0,(n.a6.length:Int),zE,[]⟩;unfold b7D;unfold V5 at hr hl ⊢;rw [a6G h.ok,e8C,a0w.2 h,b6P h];simp only [e8H,cond_false,e8C];rw [a5u (a:=⟨n,[],[]⟩) (by exact h.id) (by simp)];simp only [e8C,e9g];have l1:(I9 n.Id ⟨8,0,0,0,(n.a6.length:Int),⟨false,⟨0,0⟩,⟨[],[],0,0⟩⟩,[]⟩).length<=3:=l0;cases h1:n.d9==1
 ·cases h2:n.d9==2
  ·cases h3:n.d9==3
   ·cases hbz:n.i7
    ·rw [h1,h2,h3,hbz] at hr hl;simp only [cond_false,e8C,l8.go] at hr hl ⊢;have e:=hj _ hr hl;exact e
    ·rw [h1,h2,h3,hbz] at hr hl;simp only [cond_false,cond_true] at hr hl ⊢;rw [a5u (by exact h.id) (by simp only;omega)];simp only [e8C,l8.go];have e:=hj _ hr hl;exact e
   ·rw [h1,h2,h3] at hr hl;simp only [cond_false,cond_true] at hr hl ⊢;rw [a5u (by exact h.id) (by simp only;omega)];simp only [e8C,l8.go];have e:=hj _ hr hl;exact e
  ·rw [h1,h2] at hr hl;simp only [cond_false,cond_true] at hr hl ⊢;rw [b0M (by exact h) (by simp only;omega)];simp only [e8C,l8.go];have e:=hj _ hr hl;exact e
 ·rw [h1] at hr hl;simp only [cond_true] at hr hl ⊢;rw [a5u (by exact h.id) (by simp only;omega)];simp only [e8C,l8.go];have e:=hj _ hr hl;exact e
theorem e3F{n:j5}(h:NI n):b5j n=some (a0T n):=by
 unfold b5j;rw [a6G h.ok,e8C,a0w.2 h];simp only [e8H,cond_false];rw [show (⟨n.Id,n.Acc,n.a6,n.Seq,0,0,[],[],⟨false,⟨0,0⟩,⟨[],[],0,0⟩⟩,[],false,[],⟨false,⟨0,0⟩,⟨[],[],0,0⟩⟩,[]⟩:j5)=a0T n from rfl,b6D h.fall.ok];rfl
theorem c73{n:j5}(h:NI n){m:j7}(hto:m.To=n.Id):∀(d k:Nat) (o:List j7),n.a6.length-k=d->o.length<=k->o9 (fun s:Int×n6=>a4T m s.1 s.2) ((k:Int),⟨n,o,[]⟩)=some (.brk ⟨n,o++((e8M d).map fun j=>a01 n m (k+j)).flatten,[]⟩)
 | 0,k,o,hd,ho=>by
  have hkl:=h.kl;refine (C2 (body:=fun s:Int×n6=>a4T m s.1 s.2) (b:=⟨n,o,[]⟩) ?_).trans (by simp);unfold a4T;rw [show decide ((k:Int)<(n.a6.length:Int))=false by simp;omega];rfl
 | d+1,k,o,hd,ho=>by
  have hkl:=h.kl;have hlt:k<n.a6.length:=by omega
  have hb:a4T m (k:Int) ⟨n,o,[]⟩=some (.nxt (((k+1:Nat):Int),⟨n,o++a01 n m k,[]⟩)):=by
   unfold a4T;rw [w8 _ k hlt,cond_true];simp only;rw [u0 hlt,e8C,a6x (by simp only;omega),b40 m hlt,F3 (h.ok.2.2.1.fits (by decide)) hlt];simp only [e8C,K3,hto]
  rw [C9 (body:=fun s:Int×n6=>a4T m s.1 s.2) (s:=((k:Int),⟨n,o,[]⟩)) hb,c73 h hto d (k+1) _ (by omega) (by rw [b40 m hlt];simp;omega)];rw [List.range_succ_eq_map,e84,e8Z,e8R,e97];simp only [e9M,Function.comp_def,Nat.succ_eq_add_one,Nat.add_assoc,Nat.add_comm 1]
theorem d93{n:j5}(h:NI n){m:j7}(hm:MI m)(hto:m.To=n.Id):b3h n m=some (Y2 n m):=by
 have hr:=b3G h hm;have hl:=b54 h m;have hj:∀x:j5×List j7×List m8,a48 n x->x.2.1.length<=60->x.2.2.length<=1->b6x ⟨x.1,x.2.1,x.2.2⟩=some x:=by
  intro x hx h1 h2;unfold b6x;rw [c2I hx.ni (by simp only;omega) hx.ms (by simp only;omega)];rfl
 have hz:NI (⟨n,[],[]⟩:n6).n:=h;unfold b3h;unfold Y2 at hr hl ⊢;rw [a6G h.ok,e8C,a0w.2 h,b6P h,d17 hm.ok,c9o.2 hm,show (m.To != n.Id)=false by simpa using hto];simp only [e8H,cond_false,e8C];by_cases k1:m.a7=1
 ·rw [show (m.a7==1)=true by simpa using k1] at hr hl ⊢;simp only [cond_true] at hr hl ⊢;rw [d7W (a:=⟨n,[],[]⟩) h hm (by simp) hto];have e:=hj _ hr hl.1 hl.2;exact e
 rw [show (m.a7==1)=false by simpa using k1] at hr hl ⊢;by_cases k2:m.a7=2
 ·rw [show (m.a7==2)=true by simpa using k2] at hr hl ⊢;simp only [cond_true,cond_false] at hr hl ⊢;rw [e33 (a:=⟨n,[],[]⟩) h hm k2 (by simp)];have e:=hj _ hr hl.1 hl.2;exact e
 rw [show (m.a7==2)=false by simpa using k2] at hr hl ⊢;by_cases k3:m.a7=3
 ·rw [show (m.a7==3)=true by simpa using k3] at hr hl ⊢;simp only [cond_true,cond_false] at hr hl ⊢;rw [e4f (a:=⟨n,[],[]⟩) h hm (by simp) hto];have e:=hj _ hr hl.1 hl.2;exact e
 rw [show (m.a7==3)=false by simpa using k3] at hr hl ⊢;by_cases k4:m.a7=4
 ·rw [show (m.a7==4)=true by simpa using k4] at hr hl ⊢;simp only [cond_true,cond_false] at hr hl ⊢;rw [e2P (a:=⟨n,[],[]⟩) h hm (by simp) (by simp)];have e:=hj _ hr hl.1 hl.2;exact e
 rw [show (m.a7==4)=false by simpa using k4] at hr hl ⊢;by_cases k5:m.a7=5
 ·rw [show (m.a7==5)=true by simpa using k5] at hr hl ⊢;simp only [cond_true,cond_false] at hr hl ⊢;rw [e7Y (a:=⟨n,[],[]⟩) h hm k5 (by simp) (by simp) hto];have e:=hj _ hr hl.1 hl.2;exact e
 rw [show (m.a7==5)=false by simpa using k5] at hr hl ⊢;by_cases k6:m.a7=6
 ·rw [show (m.a7==6)=true by simpa using k6] at hr hl ⊢;obtain ⟨c1,c2⟩:=h.accOk;simp only [cond_true,cond_false] at hr hl ⊢;rw [b4a c1 c2];cases hp:H6 n.Acc m.a8
  ·rw [hp] at hr;simp only [e8C,b7L,l8.go];have e:=hj _ hr hl.1 hl.2;exact e
  ·rw [hp] at hr;simp only [e8C,b7L,l8.go];have e:=hj _ hr hl.1 hl.2;exact e
 rw [show (m.a7==6)=false by simpa using k6] at hr hl ⊢;by_cases k7:m.a7=7
 ·rw [show (m.a7==7)=true by simpa using k7] at hr hl ⊢;simp only [cond_true,cond_false] at hr hl ⊢;rw [e5L (a:=⟨n,[],[]⟩) h hm k7 (by simp)];have e:=hj _ hr hl.1 hl.2;exact e
 rw [show (m.a7==7)=false by simpa using k7] at hr hl ⊢;cases k8:m.a7==8
 ·rw [k8] at hr hl;simp only [cond_false,e8C,l8.go] at hr hl ⊢;have e:=hj _ hr hl.1 hl.2;exact e
 ·rw [k8] at hr hl;have hs:=hm.sl;obtain ⟨k,hk⟩:∃k:Nat,m.g7=(k:Int):=⟨m.g7.toNat,by omega⟩
  simp only [cond_false,cond_true] at hr hl ⊢;unfold a4D at hr hl ⊢;rw [hk] at hr hl ⊢;rw [e82] at hr hl ⊢;rw [c73 h hto (n.a6.length-k) k [] rfl (by simp)];have e:=hj _ hr hl.1 hl.2;exact e
theorem b9Y{l:List j7}(hl:t6 l):∀(d k:Nat) (net:List j7),net.length<=40->l.length-k=d->o9 (fun s:(List j7)×Int=>a3k l s.1 s.2) (net,(k:Int))=some (.brk (net++(l.drop k).take (40-net.length)))
 | 0,k,net,hn,hd=>by
  refine (C2 (body:=fun s:(List j7)×Int=>a3k l s.1 s.2) (b:=net) ?_).trans (by rw [e8S (by omega)];simp);unfold a3k;rw [show decide ((k:Int)<(l.length:Int))=false by simp;omega];rfl
 | d+1,k,net,hn,hd=>by
  have hlt:k<l.length:=by omega
  rw [e8X hlt];by_cases h40:net.length<40
  ·rw [C9 (body:=fun s:(List j7)×Int=>a3k l s.1 s.2) (t:=(net++[l[k]],((k+1:Nat):Int))) (by
    unfold a3k b6A;rw [w8 _ k hlt,cond_true,u0 hlt,e8C,show decide ((net.length:Int)<40)=true by simp;omega,cond_true,t5 (by simp only;omega),F3 hl hlt];rfl),b9Y hl d (k+1) _ (by simp;omega) (by omega),e8O,e9z,show 40-net.length=(40-(net.length+1))+1 by omega,e9X,e8R]
   rfl
  ·rw [C9 (body:=fun s:(List j7)×Int=>a3k l s.1 s.2) (t:=(net,((k+1:Nat):Int))) (by
    unfold a3k b6A;rw [w8 _ k hlt,cond_true,u0 hlt,e8C,show decide ((net.length:Int)<40)=false by simp;omega,cond_false,F3 hl hlt];rfl),b9Y hl d (k+1) _ hn (by omega),show 40-net.length=0 by omega,e9e,e9e]
theorem c1M{l:List m8}(hl:t6 l):∀(d k:Nat) (net:List m8),net.length<=60->l.length-k=d->o9 (fun s:(List m8)×Int=>a3n l s.1 s.2) (net,(k:Int))=some (.brk (net++(l.drop k).take (60-net.length)))
 | 0,k,net,hn,hd=>by
  refine (C2 (body:=fun s:(List m8)×Int=>a3n l s.1 s.2) (b:=net) ?_).trans (by rw [e8S (by omega)];simp);unfold a3n;rw [show decide ((k:Int)<(l.length:Int))=false by simp;omega];rfl
 | d+1,k,net,hn,hd=>by
  have hlt:k<l.length:=by omega
  rw [e8X hlt];by_cases h40:net.length<60
  ·rw [C9 (body:=fun s:(List m8)×Int=>a3n l s.1 s.2) (t:=(net++[l[k]],((k+1:Nat):Int))) (by
    unfold a3n b4z;rw [w8 _ k hlt,cond_true,u0 hlt,e8C,show decide ((net.length:Int)<60)=true by simp;omega,cond_true,t5 (by simp only;omega),F3 hl hlt];rfl),c1M hl d (k+1) _ (by simp;omega) (by omega),e8O,e9z,show 60-net.length=(60-(net.length+1))+1 by omega,e9X,e8R]
   rfl
  ·rw [C9 (body:=fun s:(List m8)×Int=>a3n l s.1 s.2) (t:=(net,((k+1:Nat):Int))) (by
    unfold a3n b4z;rw [w8 _ k hlt,cond_true,u0 hlt,e8C,show decide ((net.length:Int)<60)=false by simp;omega,cond_false,F3 hl hlt];rfl),c1M hl d (k+1) _ hn (by omega),show 60-net.length=0 by omega,e9e,e9e]
theorem a9M{w:m5}(hn:w.a9.length=3)(d7o:w.b9.length<=40)(htl:w.Told.length<=60){n:j5}(hid:0<=n.Id/\n.Id<=2){l:List j7}(hl:l.length<=100){t:List m8}(ht:t.length<=100):a31 w n l t=some (a6m (a0a (R3 w n.Id n) l) t):=by
 obtain ⟨k,hk⟩:∃k:Nat,n.Id=(k:Int):=⟨n.Id.toNat,by omega⟩
 unfold a31;rw [hk,u0 (show k<w.a9.length by omega),e8C];rw [show o9 (fun s:(List j7)×Int=>a3k l s.1 s.2) (w.b9,0)=_ from b9Y (by unfold t6;omega) l.length 0 w.b9 d7o (by omega)];simp only [e8C,l8.go,c2c];rw [show o9 (fun s:(List m8)×Int=>a3n t s.1 s.2) (w.Told,0)=_ from c1M (by unfold t6;omega) t.length 0 w.Told htl (by omega)];simp only [e8C,l8.go,c07,e9F,hk];rfl
theorem d3r{l:List j7}{k:Nat}(hk:k<l.length)(hl:l.length<=100):b1B l (k:Int)=some (l.take k++l.drop (k+1)):=by
 unfold b1B;rw [B6 (by omega) (by omega)];have e1:((k:Int)+1).toNat=k+1:=by omega
 have l1:((l.drop 0).take ((k:Int).toNat-0)).length<=100:=by simp;omega
 have l2:((l.drop (k+1)).take (l.length-(k+1))).length<=100:=by simp;omega
 rw [t5 (by omega),t5 (by simp only [e92];omega),t5 (by omega),e1,t5 (by simp only [e8O,e92];omega)];rw [c0T];simp
theorem e2g(n:j5)(p:List o8):(K8 n p=true/\(M9 n p).1.Seq=n.Seq+1/\(M9 n p).1.b6.a0=⟨n.Id,n.Seq+1⟩)\/(K8 n p=false/\M9 n p=(n,[])):=by
 cases hc:K8 n p
 ·right
  rw [a2w,hc];exact ⟨rfl,rfl⟩
 ·left
  refine ⟨rfl,?_,?_⟩
  ·rw [a2w,hc];simp only [cond_true];cases n.d9==2
   ·rfl
   ·exact (b5W (N7 n p)).seq
  ·rw [c1z hc];rfl
def onN(w:m5)(e:p6):m5 :=
 bif e.a7==1 then a7H w e.A e.i5 else
 bif e.a7==5 then a0a (R3 w e.A (a0j (K5 w e.A)).1) (a0j (K5 w e.A)).2 else
 bif e.a7==6 then a0a (R3 w e.A (V5 (K5 w e.A)).1) (V5 (K5 w e.A)).2 else
 bif e.a7==7 then R3 w e.A (a0T (K5 w e.A)) else w
theorem c0c(w:m5)(e:p6):C6 w e=bif e.a7==2||(e.a7==3||e.a7==4) then a17 w e else bif n9 e.A 0 2 then onN w e else w:=by
 unfold C6 onN;cases e.a7==2||(e.a7==3||e.a7==4)
 ·cases n9 e.A 0 2<;>rfl
 ·rfl
theorem d3q{w:m5}(h:WI w){e:p6}(he:L3 e)(hi:n9 e.A 0 2=true):a5Q w e=some (onN w e):=by
 rw [J1] at hi;obtain ⟨i,hA⟩:∃i:Nat,e.A=(i:Int):=⟨e.A.toNat,by omega⟩
 obtain ⟨n,hg,hn,hid,hni,hlt⟩:=a7f h (i:=i) (by omega);have hal:=h.al;unfold a5Q onN;rw [hA,a6p,hg,e8C,hn];cases e.a7==1
 ·cases e.a7==5
  ·cases e.a7==6
   ·cases e.a7==7
    ·rfl
    ·simp only [cond_true,cond_false];rw [e3F hni,e8C,a9M h.nl h.ml h.tl (by exact hni.id) (by simp) (by simp),e8C,a1Z,b8j];simp only [e8C,l8.go,b4B];rw [show (a0T n).Id=(i:Int) from hid]
   ·simp only [cond_true,cond_false];have hr:=b7Y hni;have hl:=c0M n;rw [e1D hni,e8C];simp only;rw [a9M h.nl h.ml h.tl (by rw [hr.id];exact hni.id) (by omega) (by simp),e8C,a1Z,hr.id,hid];rfl
  ·simp only [cond_true,cond_false];have hr:=b5w hni;have hl:=b58 n;rw [d9t hni,e8C,a9M h.nl h.ml h.tl (by rw [hr.id];exact hni.id) (by omega) (by simp),e8C,a1Z,hr.id,hid];rfl
 ·simp only [cond_true];unfold a7H;rw [show decide ((w.c9.length:Int)>=60)=decide (60<=w.c9.length) by simp;omega];cases decide (60<=w.c9.length)
  ·simp only [cond_false];have hr:=b5X hni (d0B he);have hl:=b86 n e.i5;rw [e6d hni he,e8C];simp only;rw [a9M h.nl h.ml h.tl (by rw [hr.id];exact hni.id) (by omega) (by simp),e8C,a1Z,hr.id,hid,hn];rcases e2g n e.i5 with ⟨c1,c2,c3⟩|⟨c1,c2⟩
   ·rw [show ((M9 n e.i5).1.Seq != n.Seq)=true by rw [c2];simp;omega,show decide ((M9 n e.i5).1.Seq>n.Seq)=true by rw [c2];simp;omega];simp only [cond_true];rw [t5 (by show (w.c9.length+1)*40<=_;omega)];simp only [e8C,l8.go,b4B];rw [c3,c2,hid];rfl
   ·rw [c2,show (n.Seq != n.Seq)=false by simp,show decide (n.Seq>n.Seq)=false by simp];rfl
  ·rfl
theorem d9h{w:m5}(h:WI w){e:p6}{k:Nat}(hA:e.A=(k:Int))(hk:k<w.b9.length)(hkd:(e.a7==2||(e.a7==3||e.a7==4))=true):a7C w e=some (a17 w e):=by
 have hml:=h.ml;unfold a7C a17;rw [hA,u0 hk,e8C,show decide (0<=(k:Int))=true by simp,e82,e8D hk];have hm:=h.ms _ (e8F hk);generalize w.b9[k]=m at hm;have hof:=d3r hk (by omega);have ht:=hm.to;obtain ⟨t,htt⟩:∃t:Nat,m.To=(t:Int):=⟨m.To.toNat,by omega⟩
 simp only [cond_true];by_cases k2:e.a7=2
 ·rw [show (e.a7==2)=true by simpa using k2,show (e.a7==4)=false by simp [k2],show (e.a7==3)=false by simp [k2]];simp only [cond_true,cond_false];have ho:=h.off (k:Int);obtain ⟨n,hg,hn,hid,hni,hlt⟩:=a7f ho (i:=t) (by omega);have hn':K5 w (t:Int)=n:=hn;have hg':w.a9[t]?=some n:=hg;have hr:=b3G hni hm;obtain ⟨l1,l2⟩:=b54 hni m;rw [hof,e8C,htt,a6p,hg',e8C,d93 hni hm (htt.trans hid.symm),e8C,a9M (w:=⟨w.a9,w.b9.take k++w.b9.drop (k+1),w.c9,w.Told⟩) h.nl ho.ml h.tl (by rw [hr.id];exact hni.id) (by omega) (by omega),e8C,hn',hr.id,hid];rfl
 ·rw [show (e.a7==2)=false by simpa using k2];cases k3:e.a7==3
  ·rw [show (e.a7==4)=true by rw [show (e.a7==2)=false by simpa using k2,k3] at hkd;simpa using hkd];simp only [cond_true,cond_false];obtain ⟨n,hg,hn,hid,hni,hlt⟩:=a7f h (i:=t) (by omega);rw [htt,a6p,hg,e8C,a9M h.nl h.ml h.tl hni.id (by simp) (by simp),e8C,a1Z,hid,b8D hg];rfl
  ·rw [show (e.a7==4)=false by simp only [beq_iff_eq] at k3;simp [k3]];simp only [cond_true,cond_false];rw [hof];rfl
theorem e8k{w:m5}(h:WI w){e:p6}(he:L3 e):b6F w e=some (C6 w e):=by
 have hd:=a63 h he;have hml:=h.ml;have hcp:a0O w=some w:=b3a h.ok;have hcd:a0O (C6 w e)=some (C6 w e):=b3a hd.2.ok;have hin:m7 ((w.a9.length:Int)-1)=2:=by rw [h.nl];rfl
 have hnode:(e.a7==2||(e.a7==3||e.a7==4))=false->((C0 e.A 0 2).bind fun in_=>bif in_ then (a5Q w e).bind fun o=>some (l8.brk o) else some (l8.brk w):Option (l8 m5 m5))=some (.brk (C6 w e)):=by
  intro hk;rw [K9,e8C,c0c,hk];cases hi:n9 e.A 0 2
  ·rfl
  ·simp only [cond_true,cond_false];rw [d3q h he hi];rfl
 have hmsg:(e.a7==2||(e.a7==3||e.a7==4))=true->((C0 e.A 0 (m7 ((w.b9.length:Int)-1))).bind fun in_=>bif in_ then (a7C w e).bind fun o=>some (l8.brk o) else some (l8.brk w):Option (l8 m5 m5))=some (.brk (C6 w e)):=by
  intro hk;rw [B6 (by omega) (by omega),K9,e8C,c0c,hk];cases hi:n9 e.A 0 ((w.b9.length:Int)-1)
  ·simp only [cond_true,cond_false];rw [show a17 w e=w by
    unfold a17;cases h0:decide (0<=e.A)
    ·rfl
    ·have:¬(0<=e.A/\e.A<=(w.b9.length:Int)-1):=fun q=>by rw [J1.2 q] at hi;cases hi
     have h0':0<=e.A:=of_decide_eq_true h0;rw [e88 (by omega)];rfl]
  ·rw [J1] at hi;simp only [cond_true];rw [d9h h (k:=e.A.toNat) (by omega) (by omega) hk];rfl
 unfold b6F;rw [hcp,e8C,hin];by_cases k1:e.a7=1
 ·have hf:(e.a7==2||(e.a7==3||e.a7==4))=false:=by simp [k1]
  rw [show (e.a7==1)=true by simpa using k1];simp only [cond_true];rw [hnode hf];simp only [e8C,l8.go,b8q,hcd]
 rw [show (e.a7==1)=false by simpa using k1];by_cases k5:e.a7=5
 ·have hf:(e.a7==2||(e.a7==3||e.a7==4))=false:=by simp [k5]
  rw [show (e.a7==5)=true by simpa using k5];simp only [cond_true,cond_false];rw [hnode hf];simp only [e8C,l8.go,c02,hcd]
 rw [show (e.a7==5)=false by simpa using k5];by_cases k6:e.a7=6
 ·have hf:(e.a7==2||(e.a7==3||e.a7==4))=false:=by simp [k6]
  rw [show (e.a7==6)=true by simpa using k6];simp only [cond_true,cond_false];rw [hnode hf];simp only [e8C,l8.go,c2s,hcd]
 rw [show (e.a7==6)=false by simpa using k6];simp only [cond_false];have fin:∀X:Option (l8 m5 m5),X=some (.brk (C6 w e))->(X.bind fun x=>x.go some fun j=>b4t j)=some (C6 w e):=by
  intro X hX;rw [hX];simp only [e8C,l8.go,b4t,hcd]
 refine fin _ ?_;by_cases k7:e.a7=7
 ·rw [show (e.a7==7)=true by simpa using k7];exact hnode (by simp [k7])
 rw [show (e.a7==7)=false by simpa using k7];by_cases k2:e.a7=2
 ·rw [show (e.a7==2)=true by simpa using k2];exact hmsg (by simp [k2])
 by_cases k3:e.a7=3
 ·rw [show (e.a7==2)=false by simpa using k2,show (e.a7==3)=true by simpa using k3];exact hmsg (by simp [k3])
 by_cases k4:e.a7=4
 ·rw [show (e.a7==2)=false by simpa using k2,show (e.a7==3)=false by simpa using k3,show (e.a7==4)=true by simpa using k4];exact hmsg (by simp [k4])
 have e2:(e.a7==2)=false:=by simpa using k2
 have e3:(e.a7==3)=false:=by simpa using k3
 have e4:(e.a7==4)=false:=by simpa using k4
 rw [e2,e3,e4,c0c,e2,e3,e4];have:onN w e=w:=by
  unfold onN;rw [show (e.a7==1)=false by simpa using k1,show (e.a7==5)=false by simpa using k5,show (e.a7==6)=false by simpa using k6,show (e.a7==7)=false by simpa using k7];rfl
 rw [this];cases n9 e.A 0 2<;>rfl
theorem d0g{l:List p6}(hl:t6 l)(he:∀e∈l,L3 e):∀(d k:Nat) (w:m5),WI w->l.length-k=d->o9 (fun s:Int×m5=>a5J l s.1 s.2) ((k:Int),w)=some (.brk (a1f w (l.drop k)))
 | 0,k,w,h,hd=>by
  rw [e8S (by omega)];refine C2 (body:=fun s:Int×m5=>a5J l s.1 s.2) (b:=w) ?_;unfold a5J;rw [show decide ((k:Int)<(l.length:Int))=false by simp;omega];rfl
 | d+1,k,w,h,hd=>by
  have hlt:k<l.length:=by omega
  have hek:=he _ (e8F hlt);rw [C9 (body:=fun s:Int×m5=>a5J l s.1 s.2) (t:=(((k+1:Nat):Int),C6 w l[k])) (by
   unfold a5J;rw [w8 _ k hlt,u0 hlt,cond_true,e8C,e8k h hek,e8C,F3 hl hlt]),d0g hl he d (k+1) _ (a63 h hek).2 (by omega),e8X hlt]
  rfl
theorem e2y{w:m5}(h:a2C w){l:List p6}(hl:t6 l)(he:∀e∈l,L3 e):b2o w l=some (bif L0 w&&decide (l.length<=400) then a1f w l else noW):=by
 unfold b2o;rw [d39 h,e8C,show decide ((l.length:Int)>400) = !decide (l.length<=400) from a9w l 400];cases hw:L0 w
 ·rfl
 ·cases decide (l.length<=400)
  ·rfl
  ·simp only [e8H,cond_false,Bool.and_self,cond_true];rw [b3a h,e8C,show o9 (fun s:Int×m5=>a5J l s.1 s.2) (0,w)=_ from d0g hl he l.length 0 w (b2A.1 hw) rfl];rfl
theorem e57{l:List p6}(he:∀e∈l,L3 e)(hl:l.length<=300):b2o N9 l=some (a1f N9 l)/\b2N N9 l=some (a1f N9 l)/\WI (a1f N9 l):=by
 have hf:t6 l:=by unfold t6;omega
 have h:=WI.open;refine ⟨?_,?_,c5P h he⟩
 ·rw [e2y h.ok hf he,b2A.2 h,decide_eq_true (by omega)];rfl
 ·rw [d5s h.ok hf he,b2A.2 h,decide_eq_true (by omega)];rfl
def D3(i:Int):Prop:=0<=i/\i<=2
abbrev VR:=Int->Nat->Int->m4->Prop
abbrev PR:=Int->Nat->m4->Prop
abbrev MS:=j7->Prop
def b9f(V:VR)(s:Nat)(e:m4):Prop := ∃b p q,D3 p/\D3 q/\p≠q/\V p s b e/\V q s b e
structure Cov(N:Int->j5)(V:VR)(n:j5)(q:Int):Prop where
 pr:n.a8<=(N q).Acc.i4
 cv:∀s b e,n.a6.length<=s->b<n.a8->V q s b e->∃v,n.g9[s]?=some v/\b<=v.a8
def Quo(p:Int->Prop):Prop := ∃a b,D3 a/\D3 b/\a≠b/\p a/\p b
structure LD(N:Int->j5)(V:VR)(P:PR)(n:j5):Prop where
 bs:n.d9≠0->∀s v,n.g9[s]?=some v->v.a8>0->v.a8<n.a8/\∃q,V q s v.a8 v.i0
 l1:n.d9=1->(∀s e,¬P n.a8 s e)/\∀q,D3 q->n.d7[q.toNat]?=some true->Cov N V n q
 l2:n.d9=2->(∀s e,P n.a8 s e->s<n.a6.length)/\Quo (Cov N V n)
 l3:n.d9=3->P n.a8 n.a6.length n.c8/\(∀s e,P n.a8 s e->s<=n.a6.length)/\Quo (Cov N V n)/\∀q,D3 q->n.a5[q.toNat]?=some true->V q n.a6.length n.a8 n.c8
structure MV(N:Int->j5)(V:VR)(P:PR)(m:j7):Prop where
 k1:m.a7=1->e81 m.a8 3=m.d7/\m.g7<=(N m.d7).a6.length
 k2:m.a7=2->m.g7<=(N m.To).a6.length/\m.a8<=(N m.d7).Acc.i4/\(∀s b e,m.g7.toNat<=s->b<m.a8->V m.d7 s b e->∃v,m.a5[s-m.g7.toNat]?=some v/\b<=v.a8)/\∀k v,m.a5[k]?=some v->v.a8>0->v.a8<=m.a8/\V m.d7 (m.g7.toNat+k) v.a8 v.i0
 k3:m.a7=3->P m.a8 m.g7.toNat m.i0
 k4:m.a7=4->∃e,V m.d7 m.g7.toNat m.a8 e
 k5:m.a7=5->b9f V m.g7.toNat m.i0
def Sf(N:Int->j5)(V:VR)(b:Int)(s:Nat)(e:m4)(q:Int):Prop :=
 b<=(N q).Acc.i4/\∀b' e',b'<b->V q s b' e'->∃b1 q1,b'<=b1/\b1<b/\V q1 s b1 e
structure PX(N:Int->j5)(V:VR)(P:PR)(M:MS):Prop where
 ni:∀i,D3 i->NI (N i)/\(N i).Id=i
 vp:∀i s b e,V i s b e->D3 i/\P b s e/\1<=b/\b<=(N i).Acc.i4
 cur:∀i s v,D3 i->(N i).Acc.a5[s]?=some v->v.a8>0->V i s v.a8 v.i0
 max:∀i s b e,V i s b e->∃v,(N i).Acc.a5[s]?=some v/\b<=v.a8
 pu:∀b s e e',P b s e->P b s e'->e=e'
 po:∀b s e,P b s e->1<=b/\b<=(N (e81 b 3)).Acc.i4
 safe:∀b s e,P b s e->Quo (Sf N V b s e)
 ld:∀i,D3 i->LD N V P (N i)
 kn:∀i s e,D3 i->(N i).a6[s]?=some e->b9f V s e
 ms:∀m,M m->MI m/\MV N V P m
section
variable {N:Int->j5} {V:VR} {P:PR} {M:MS}
end
def upd(N:Int->j5)(i:Int)(n:j5):Int->j5:=fun j=>if j=i then n else N j
structure Chg(N:Int->j5)(V:VR)(P:PR)(M:MS)(i:Int)(n':j5)(V':VR)(P':PR)(M':MS):Prop where
 ni:NI n'
 id:n'.Id=i
 pr:(N i).Acc.i4<=n'.Acc.i4
 kl:(N i).a6.length<=n'.a6.length
 v1:∀q s b e,V q s b e->V' q s b e
 v2:∀q s b e,V' q s b e->V q s b e\/(q=i/\(N i).Acc.i4<=b/\1<=b/\b<=n'.Acc.i4/\P' b s e)
 p1:∀b s e,P b s e->P' b s e
 p2:∀b s e,P' b s e->P b s e\/(b=n'.a8/\n'.d9=3/\(∀e',P' b s e'->e'=e)/\Quo (Sf (upd N i n') V' b s e))
 cur:∀s v,n'.Acc.a5[s]?=some v->v.a8>0->V' i s v.a8 v.i0
 max:∀s b e,V' i s b e->∃v,n'.Acc.a5[s]?=some v/\b<=v.a8
 ld:LD (upd N i n') V' P' n'
 kn:∀s e,n'.a6[s]?=some e->b9f V' s e
 ms:∀m,M' m->M m\/(MI m/\MV (upd N i n') V' P' m)
section
variable {N:Int->j5} {V:VR} {P:PR} {M:MS} {i:Int} {n':j5} {V':VR} {P':PR} {M':MS}
end
section
variable {N N':Int->j5} {V V':VR} {P P':PR} {M:MS} {i:Int} {n n':j5}
end
section
variable {N:Int->j5} {V:VR} {P:PR} {M:MS} {i:Int}
end
section
variable {N:Int->j5} {V:VR} {P:PR} {M:MS} {i:Int} {m:j7}
end
section
variable {N:Int->j5} {V:VR} {P:PR} {M:MS} {i:Int}
end
def x6(w:m5)(j:Int):j5:=if 0<=j/\j<=2 then K5 w j else C4 0
theorem a8r{w:m5}{j:Int}(h:D3 j):x6 w j=K5 w j:=if_pos h
theorem a9g{w:m5}{l:List j7}{m:j7}(h:m∈(a0a w l).b9):m∈w.b9\/m∈l :=
 (List.mem_append.1 h).imp id e9j
theorem c5I{w:m5}{i:Int}{m:j7}(h:m∈(a3i w i).b9):m∈w.b9 :=
 (List.mem_append.1 h).elim e9j e9i
structure ND(L:m4->Prop)(n:j5):Prop where
 kn:∀e∈n.a6,L e
 av:∀v∈n.Acc.a5,v.a8>0->L v.i0
 bv:∀v∈n.g9,v.a8>0->L v.i0
 cu:n.d9=3->L n.c8
 wt:n.i7=true->L n.b6
 qu:∀e∈n.d8,L e
structure ML(L:m4->Prop)(m:j7):Prop where
 en:m.a7=3\/m.a7=5\/m.a7=7->L m.i0
 vs:∀v∈m.a5,v.a8>0->L v.i0
def TO(n x:j5)(ts:List m8):Prop:=ts=[]\/(n.i7=true/\x.i7=false/\∃k,x.a6.findIdx? (G4 n.b6.a0)=some k/\ts=[⟨n.Id,n.b6.a0,Q8 x.a6 k,bif Q8 x.a6 k==0 then a0M x.a6 n.b6.a0 else 0⟩])
structure Act(L:m4->Prop)(n x:j5)(l:List j7)(ts:List m8):Prop where
 id:x.Id=n.Id
 sq:x.Seq=n.Seq
 kn:∃t,x.a6=n.a6++t
 bw:(x.i7=n.i7/\x.b6=n.b6)\/x.i7=false
 nd:ND L x
 ml:∀m∈l,ML L m
 to:TO n x ts
section
variable {L:m4->Prop} {n:j5} {m:j7}
theorem Act.same(h:ND L n):Act L n n [] []:=⟨rfl,rfl,⟨[],by simp⟩,.inl ⟨rfl,rfl⟩,h,by simp,.inl rfl⟩
theorem Act.of{x:j5}{l:List j7}(e1:x.Id=n.Id)(e2:x.Seq=n.Seq)(e3:x.a6=n.a6)(e4:x.i7=n.i7)(e5:x.b6=n.b6)(h:ND L x)(hm:∀m∈l,ML L m):Act L n x l [] :=
 ⟨e1,e2,⟨[],by rw [e3];simp⟩,.inl ⟨e4,e5⟩,h,hm,.inl rfl⟩
theorem ML.plain(h1:m.a7≠3)(h2:m.a7≠5)(h3:m.a7≠7)(hv:m.a5=[]):ML L m:=⟨fun h=>by omega,by rw [hv];simp⟩
theorem ML.has(hv:m.a5=[])(h:L m.i0):ML L m:=⟨fun _=>h,by rw [hv];simp⟩
theorem ML.all{id:Int}{x:j7}(h:ML L m)(hx:x∈I9 id m):ML L x:=by
 unfold I9 at hx;obtain ⟨t,_,rfl⟩:=List.mem_map.1 hx;exact ⟨h.en,h.vs⟩
theorem ND.down(h:ND L n):ND L (a4d n):=⟨h.kn,h.av,by simp [a4d],fun q=>absurd (show (0:Int)=3 from q) (by decide),h.wt,h.qu⟩
theorem ND.yield(h:ND L n)(b:Int):ND L (N2 n b):=by
 unfold N2;cases n.d9 != 0&&decide (b>n.a8)
 ·exact h
 ·exact h.down
theorem b8n(n:j5)(b:Int):(N2 n b).Seq=n.Seq/\(N2 n b).a6=n.a6/\(N2 n b).i7=n.i7/\(N2 n b).b6=n.b6:=by
 unfold N2;cases n.d9 != 0&&decide (b>n.a8)<;>exact ⟨rfl,rfl,rfl,rfl⟩
theorem ND.next(h:ND L n)(h0:L eN){e:m4}(hn:a19 n e):L e:=by
 cases hn with
 | best v hv hb=>exact h.bv v (e8P hv) hb
 | gap=>exact h0
 | want hb=>exact h.wt hb
 | queue e he=>exact h.qu e he
theorem c8r{a x:v6}{b s:Int}{e:m4}(hc:M5 a b s e=some x)(h:∀v∈a.a5,v.a8>0->L v.i0)(he:L e):∀v∈x.a5,v.a8>0->L v.i0:=by
 obtain ⟨k,rfl,_,_,_,_,_,rfl⟩:=b8c hc;intro v hv hb;rcases c7g hv with q|q
 ·rcases c1B q with q|q
  ·exact h v q hb
  ·rw [q] at hb;exact absurd hb (by decide)
 ·rw [q];exact he
theorem Act.propose(h:ND L n)(h0:L eN):Act L n (M4 n).1 (M4 n).2 []:=by
 unfold M4;cases n.d9 != 2||decide (40<=n.a6.length)
 case true=>exact .same h
 simp only [cond_false];obtain ⟨q,hq,hql,hqm,hqe⟩:=b0W n;cases hx:a0H n with
 | mk x o =>
 rw [hx] at hq hqe;have hq:x={n with d8:=q}:=hq;subst hq;have hQ:ND L {n with d8:=q}:=⟨h.kn,h.av,h.bv,h.cu,h.wt,fun e he=>h.qu e (hqm e he)⟩
 cases o with
 | none=>exact .of rfl rfl rfl rfl rfl hQ (by simp)
 | some e =>
  have he:=h.next h0 (hqe e rfl);simp only [a6M];cases hc:M5 n.Acc n.a8 (n.a6.length:Int) e with
  | none=>exact .of rfl rfl rfl rfl rfl hQ.down (by simp)
  | some a=>exact .of rfl rfl rfl rfl rfl ⟨h.kn,c8r hc h.av he,h.bv,fun _=>he,h.wt,hQ.qu⟩ fun m hm=>(ML.has rfl he).all hm
theorem Act.thenP{a:j5}{l:List j7}{ts:List m8}(h:Act L n a l ts)(h0:L eN):Act L n (M4 a).1 (l++(M4 a).2) ts:=by
 have hp:=Act.propose h.nd h0;have hk:=b5W a;obtain ⟨t,ht⟩:=h.kn;refine ⟨hk.id.trans h.id,hk.seq.trans h.sq,⟨t,hk.known.trans ht⟩,h.bw.imp (fun q=>⟨hk.busy.trans q.1,hk.want.trans q.2⟩) fun q=>hk.busy.trans q,hp.nd,fun m hm=>(List.mem_append.1 hm).elim (h.ml m) (hp.ml m),?_⟩;unfold TO;rw [hk.known,hk.busy];exact h.to
theorem Act.know{e:m4}(h:ND L n)(he:L e):Act L n (T1 (H4 n e)).1 [] (T1 (H4 n e)).2:=by
 have k1:(H4 n e).Id=n.Id:=b9n n e;have k2:(H4 n e).Seq=n.Seq:=by unfold H4;cases n.d9==3<;>rfl
 have k3:(H4 n e).a6=n.a6++[e]:=c9q n e;have k4:(H4 n e).i7=n.i7/\(H4 n e).b6=n.b6:=by unfold H4;cases n.d9==3<;>exact ⟨rfl,rfl⟩
 have kk:∀x∈n.a6++[e],L x:=fun x hx=>(List.mem_append.1 hx).elim (h.kn x) fun q=>by rw [e8J.1 q];exact he
 have hnd:ND L (H4 n e):=by
  unfold H4;cases hp:n.d9==3
  ·exact ⟨kk,h.av,h.bv,h.cu,h.wt,h.qu⟩
  ·exact ⟨kk,h.av,h.bv,fun q=>absurd (show (2:Int)=3 from q) (by decide),h.wt,h.qu⟩
 rcases b0Z (H4 n e) with q|⟨k,q1,q2,q⟩<;>rw [q]
 ·exact ⟨k1,k2,⟨[e],k3⟩,.inl k4,hnd,by simp,.inl rfl⟩
 ·refine ⟨k1,k2,⟨[e],k3⟩,.inr rfl,⟨hnd.kn,hnd.av,hnd.bv,hnd.cu,fun q=>(by cases q),hnd.qu⟩,by simp,.inr ⟨by rw [<-k4.1];exact q1,rfl,k,by rw [<-k4.2];exact q2,?_⟩⟩;rw [<-k4.2,<-k1];rfl
theorem Act.learn{e:m4}(h:ND L n)(h0:L eN)(he:L e):Act L n (X8 n e).1 (X8 n e).2.1 (X8 n e).2.2:=by
 have:=(Act.know h he).thenP h0;rw [e9g] at this;exact this
theorem e7V{α:Type}{l:List α}{k:Nat}{x:α}(h:x∈l.drop k):x∈l:=e9i h
theorem Act.take(h:ND L n)(h0:L eN)(hm:ML L m)(hmi:MI m):Act L n (Y2 n m).1 (Y2 n m).2.1 (Y2 n m).2.2:=by
 unfold Y2;by_cases k1:m.a7=1
 ·rw [show (m.a7==1)=true by simpa using k1];simp only [cond_true];unfold a2F;cases hp:H6 n.Acc m.a8 with
  | none=>exact .of rfl rfl rfl rfl rfl h fun x hx=>by rw [e8J.1 hx];exact .plain (by simp [K3]) (by simp [K3]) (by simp [K3]) rfl
  | some a =>
   obtain ⟨rfl,_⟩:=a5m hp;obtain ⟨y1,y2,y3,y4⟩:=b8n {n with Acc:=⟨m.a8,n.Acc.a5⟩} m.a8;have hg:ND L {n with Acc:=⟨m.a8,n.Acc.a5⟩}:=⟨h.kn,h.av,h.bv,h.cu,h.wt,h.qu⟩
   refine .of (a5A _ _) y1 y2 y3 y4 (hg.yield _) fun x hx => ?_
   rw [e8J.1 hx];exact ⟨fun q=>by simp [K3] at q,fun v hv=>h.av v (e7V hv)⟩
 rw [show (m.a7==1)=false by simpa using k1];by_cases k2:m.a7=2
 ·rw [show (m.a7==2)=true by simpa using k2];simp only [cond_true,cond_false];unfold a2T;have hb:∀v∈D6 n.g9 (e8E m.g7.toNat v0++m.a5),v.a8>0->L v.i0:=fun v hv hb=>by
   rcases b0X hv with q|q
   ·exact h.bv v q hb
   ·rcases List.mem_append.1 q with q|q
    ·rw [(e9f.1 q).2] at hb;exact absurd hb (by decide)
    ·exact hm.vs v q hb
  cases n.d9 != 1||m.a8 != n.a8
  ·simp only [cond_false];cases N0 (n.d7.set m.d7.toNat true)
   ·exact .of rfl rfl rfl rfl rfl ⟨h.kn,h.av,hb,h.cu,h.wt,h.qu⟩ (by simp)
   ·simp only [cond_true];have h1:Act L n {n with d7:=[],g9:=D6 n.g9 (e8E m.g7.toNat v0++m.a5),d9:=2} [] []:=.of rfl rfl rfl rfl rfl ⟨h.kn,h.av,hb,fun q=>absurd (show (2:Int)=3 from q) (by decide),h.wt,h.qu⟩ (by simp);have h2:=h1.thenP h0;rw [e9g] at h2;exact h2
  ·exact .same h
 rw [show (m.a7==2)=false by simpa using k2];by_cases k3:m.a7=3
 ·rw [show (m.a7==3)=true by simpa using k3];simp only [cond_true,cond_false];unfold a3h;cases hp:M5 n.Acc m.a8 m.g7 m.i0 with
  | none=>exact .of rfl rfl rfl rfl rfl h fun x hx=>by rw [e8J.1 hx];exact .plain (by simp [K3]) (by simp [K3]) (by simp [K3]) rfl
  | some a =>
   obtain ⟨y1,y2,y3,y4⟩:=b8n {n with Acc:=a} m.a8;have hg:ND L {n with Acc:=a}:=⟨h.kn,c8r hp h.av (hm.en (.inl k3)),h.bv,h.cu,h.wt,h.qu⟩
   refine .of (a5A _ _) y1 y2 y3 y4 (hg.yield _) fun x hx => ?_
   rw [e8J.1 hx];exact .plain (by simp [K3]) (by simp [K3]) (by simp [K3]) rfl
 rw [show (m.a7==3)=false by simpa using k3];by_cases k4:m.a7=4
 ·rw [show (m.a7==4)=true by simpa using k4];simp only [cond_true,cond_false];unfold a4g;cases hc:n.d9 != 3||(m.a8 != n.a8||m.g7 != (n.a6.length:Int))
  ·simp only [cond_false];simp only [e9T,bne_eq_false_iff_eq] at hc;have hcu:=h.cu hc.1;have h1:ND L {n with a5:=n.a5.set m.d7.toNat true}:=⟨h.kn,h.av,h.bv,h.cu,h.wt,h.qu⟩
   cases N0 (n.a5.set m.d7.toNat true)
   ·exact .of rfl rfl rfl rfl rfl h1 (by simp)
   ·simp only [cond_true];have h2:=Act.learn h1 h0 hcu;exact ⟨h2.id,h2.sq,h2.kn,h2.bw,h2.nd,fun x hx=>(List.mem_append.1 hx).elim (fun q=>(ML.has rfl hcu).all q) (h2.ml x),h2.to⟩
  ·exact .same h
 rw [show (m.a7==4)=false by simpa using k4];by_cases k5:m.a7=5
 ·rw [show (m.a7==5)=true by simpa using k5];simp only [cond_true,cond_false];unfold a4r;cases decide (m.g7<(n.a6.length:Int))
  ·cases decide (m.g7>(n.a6.length:Int))
   ·exact .learn h h0 (hm.en (.inr (.inl k5)))
   ·exact .of rfl rfl rfl rfl rfl h fun x hx=>by rw [e8J.1 hx];exact .plain (by simp [K3]) (by simp [K3]) (by simp [K3]) rfl
  ·exact .same h
 rw [show (m.a7==5)=false by simpa using k5];by_cases k6:m.a7=6
 ·rw [show (m.a7==6)=true by simpa using k6];simp only [cond_true,cond_false];have hg:ND L {n with Acc:=(H6 n.Acc m.a8).getD n.Acc}:=by
   cases hp:H6 n.Acc m.a8 with
   | none=>exact h
   | some a =>
    obtain ⟨rfl,_⟩:=a5m hp;exact ⟨h.kn,h.av,h.bv,h.cu,h.wt,h.qu⟩
  obtain ⟨y1,y2,y3,y4⟩:=b8n {n with Acc:=(H6 n.Acc m.a8).getD n.Acc} m.a8;exact .of (a5A _ _) y1 y2 y3 y4 (hg.yield _) (by simp)
 rw [show (m.a7==6)=false by simpa using k6];by_cases k7:m.a7=7
 ·rw [show (m.a7==7)=true by simpa using k7];simp only [cond_true,cond_false];unfold a27;cases n.d9==0||(decide (4<=n.d8.length)||L5 n.a6 m.i0.a0)
  ·simp only [cond_false];have h1:Act L n {n with d8:=n.d8++[m.i0]} [] []:=.of rfl rfl rfl rfl rfl ⟨h.kn,h.av,h.bv,h.cu,h.wt,fun e he=>(List.mem_append.1 he).elim (h.qu e) fun q=>by rw [e8J.1 q];exact hm.en (.inr (.inr k7))⟩ (by simp);have h2:=h1.thenP h0;rw [e9g] at h2;exact h2
  ·exact .same h
 rw [show (m.a7==7)=false by simpa using k7];cases m.a7==8
 ·exact .same h
 ·refine .of rfl rfl rfl rfl rfl h fun x hx => ?_
  obtain ⟨l,hl,hx⟩:=e9m.1 hx;obtain ⟨j,hj,rfl⟩:=List.mem_map.1 hl;unfold a01 at hx;cases hk:n.a6[m.g7.toNat+j]? with
  | none=>rw [hk] at hx;cases hx
  | some e =>
   rw [hk] at hx;rw [e8J.1 hx];exact .has rfl (h.kn e (e8P hk))
theorem Act.rise(h:ND L n):Act L n (a0j n).1 (a0j n).2 []:=by
 unfold a0j;cases decide (L6 n.Acc.i4 n.Id<0)
 ·refine .of rfl rfl rfl rfl rfl ⟨h.kn,h.av,h.av,fun q=>absurd (show (1:Int)=3 from q) (by decide),h.wt,h.qu⟩ fun x hx=>(ML.plain (by simp) (by simp) (by simp) rfl).all hx
 ·exact .same h
theorem Act.retry(h:ND L n)(h0:L eN):Act L n (V5 n).1 (V5 n).2 []:=by
 have hn:∀x∈I9 n.Id ⟨8,0,0,0,(n.a6.length:Int),zE,[]⟩,ML L x:=fun x hx=>(ML.plain (by simp) (by simp) (by simp) rfl).all hx
 have N0:∀{l:List j7},(∀x∈l,ML L x)->Act L n n (I9 n.Id ⟨8,0,0,0,(n.a6.length:Int),zE,[]⟩++l) []:=fun {l} hl=>.of rfl rfl rfl rfl rfl h fun x hx=>(List.mem_append.1 hx).elim (hn x) (hl x)
 unfold V5;by_cases h1:n.d9=1
 ·rw [show (n.d9==1)=true by simpa using h1];exact N0 fun x hx=>(ML.plain (by simp) (by simp) (by simp) rfl).all hx
 rw [show (n.d9==1)=false by simpa using h1];by_cases h2:n.d9=2
 ·rw [show (n.d9==2)=true by simpa using h2];have hp:Act L n n (I9 n.Id ⟨8,0,0,0,(n.a6.length:Int),zE,[]⟩) []:=.of rfl rfl rfl rfl rfl h hn;exact hp.thenP h0
 rw [show (n.d9==2)=false by simpa using h2];by_cases h3:n.d9=3
 ·rw [show (n.d9==3)=true by simpa using h3];exact N0 fun x hx=>(ML.has rfl (h.cu h3)).all hx
 rw [show (n.d9==3)=false by simpa using h3];cases hb:n.i7
 ·exact .of rfl rfl rfl rfl rfl h hn
 ·exact N0 fun x hx=>(ML.has rfl (h.wt hb)).all hx
theorem Act.fall(h:ND L n):Act L n (a0T n) [] []:=⟨rfl,rfl,⟨[],by simp [a0T,C4]⟩,.inr rfl,⟨h.kn,h.av,by simp [a0T,C4],fun q=>absurd (show (0:Int)=3 from q) (by decide),fun q=>(by cases q),by simp [a0T,C4]⟩,by simp,.inl rfl⟩
theorem ND.mono{L':m4->Prop}(h:ND L n)(hi:∀e,L e->L' e):ND L' n:=⟨fun e q=>hi e (h.kn e q),fun v q b=>hi _ (h.av v q b),fun v q b=>hi _ (h.bv v q b),fun q=>hi _ (h.cu q),fun q=>hi _ (h.wt q),fun e q=>hi e (h.qu e q)⟩
theorem ML.mono{L':m4->Prop}(h:ML L m)(hi:∀e,L e->L' e):ML L' m:=⟨fun q=>hi _ (h.en q),fun v q b=>hi _ (h.vs v q b)⟩
end
def a0b(w:m5)(e:m4):Prop:=e.i8=true\/∃a∈w.c9,a.a0=e.a0/\∃j,j<=(x6 w e.a0.d6).a6.length/\(∀x∈(x6 w e.a0.d6).a6.take j,G4 e.a0 x=false)/\e.b8=E5 (z5 ((x6 w e.a0.d6).a6.take j)).1.g8 a.i5
def a7K(l:List m4)(t:m8):Prop := ∃k,l.findIdx? (G4 t.a0)=some k/\t.Code=Q8 l k/\t.f0=bif Q8 l k==0 then a0M l t.a0 else 0
structure TL(w:m5):Prop where
 nd:∀i,D3 i->ND (a0b w) (x6 w i)
 ml:∀m∈w.b9,ML (a0b w) m
 aq:∀a∈w.c9,D3 a.a0.d6/\1<=a.a0.Seq/\a.a0.Seq<=(x6 w a.a0.d6).Seq
 au:(w.c9.map (·.a0)).Nodup
 tn:∀t∈w.Told,t.Node=t.a0.d6/\D3 t.Node/\(∃a∈w.c9,a.a0=t.a0)/\((x6 w t.Node).i7=true->t.a0.Seq<(x6 w t.Node).Seq)/\a7K (x6 w t.Node).a6 t
 tu:(w.Told.map (·.a0)).Nodup
theorem c80{l t:List m4}{q:p8}{k:Nat}(h:l.findIdx? (G4 q)=some k):(l++t).findIdx? (G4 q)=some k:=by
 rw [List.findIdx?_append,h];rfl
theorem d1G{l t:List m4}{k:Nat}(h:I3 (l++t)=true)(hk:k<l.length):Q8 (l++t) k=Q8 l k:=by
 have hl:I3 l=true:=by
  unfold I3 at h ⊢;simp only [e8O,List.all_append,e8G,decide_eq_true_eq] at h ⊢;exact ⟨by omega,h.2.1⟩
 rw [c0g h (by rw [e8O];omega),c0g hl hk,e9c (by omega),List.getElem_append_left hk]
theorem d8N{l t:List m4}{q:p8}{k:Nat}(h:l.findIdx? (G4 q)=some k):a0M (l++t) q=a0M l q:=by
 obtain ⟨hk,_⟩:=b2y h;unfold a0M;rw [c80 h,h];simp only [e8Y hk]
theorem a7K.app{l t:List m4}{x:m8}(h:a7K l x)(hl:I3 (l++t)=true):a7K (l++t) x:=by
 obtain ⟨k,h1,h2,h3⟩:=h;obtain ⟨hk,_⟩:=b2y h1;exact ⟨k,c80 h1,by rw [d1G hl hk];exact h2,by rw [d1G hl hk,d8N h1];exact h3⟩
theorem b09{w:m5}(h:WI w){i:Int}(hi:D3 i):NI (x6 w i)/\(x6 w i).Id=i:=by
 rw [a8r hi];unfold D3 at hi;obtain ⟨k,rfl⟩:∃k:Nat,i=(k:Int):=⟨i.toNat,by omega⟩
 obtain ⟨n,_,h2,h3,h4,_⟩:=a7f h (i:=k) (by omega);rw [h2];exact ⟨h4,h3⟩
theorem b84{w w':m5}(hl:w.a9.length=3){i:Nat}(hi:i<3)(n:j5)(hw:w'.a9=w.a9.set i n)(j:Int):x6 w' j=if j=(i:Int) then n else x6 w j:=by
 unfold x6 K5;rw [hw];by_cases hj:0<=j/\j<=2
 ·rw [if_pos hj,if_pos hj];by_cases q:j=(i:Int)
  ·subst q;rw [if_pos rfl,e82,e8Q,e9v (by omega)];rfl
  ·rw [if_neg q,e8Q,e8U (by omega),<-e8Q]
 ·rw [if_neg hj,if_neg hj,if_neg (by omega)]
theorem a0b.mono{w w':m5}(hk:∀j,∃t,(x6 w' j).a6=(x6 w j).a6++t)(ha:∀a∈w.c9,a∈w'.c9){e:m4}(h:a0b w e):a0b w' e:=by
 rcases h with h|⟨a,h1,h2,j,h3,h4,h5⟩
 ·exact .inl h
 ·obtain ⟨t,ht⟩:=hk e.a0.d6;refine .inr ⟨a,ha a h1,h2,j,by rw [ht,e8O];omega,?_,?_⟩
  ·rw [ht,e9c h3];exact h4
  ·rw [ht,e9c h3];exact h5
theorem TL.step{w w':m5}(h:TL w)(hl:w.a9.length=3){i:Nat}(hi:i<3)(hni:NI (x6 w (i:Int)))(hid:(x6 w (i:Int)).Id=(i:Int)){n':j5}{l:List j7}{ts:List m8}(hn':NI n')(ha:Act (a0b w) (x6 w (i:Int)) n' l ts)(hn:w'.a9=w.a9.set i n')(hm:∀m∈w'.b9,m∈w.b9\/m∈l)(hk:w'.c9=w.c9)(ht:w'.Told=w.Told\/w'.Told=w.Told++ts):TL w':=by
 have hJ:=b84 hl hi n' hn;have hD:D3 (i:Int):=by unfold D3;omega
 have hJi:x6 w' (i:Int)=n':=by rw [hJ,if_pos rfl]
 have hkn:∀j,∃t,(x6 w' j).a6=(x6 w j).a6++t:=fun j=>by
  rw [hJ];split
  ·rename_i q;subst q;exact ha.kn
  ·exact ⟨[],by simp⟩
 have hmo:∀e,a0b w e->a0b w' e:=fun e=>a0b.mono hkn (by rw [hk];exact fun _ q=>q)
 have hsq:∀j,(x6 w' j).Seq=(x6 w j).Seq:=fun j=>by
  rw [hJ];split
  ·rename_i q;subst q;exact ha.sq
  ·rfl
 have hls:∀j,D3 j->NI (x6 w j)->∀t,(x6 w' j).a6=(x6 w j).a6++t->I3 ((x6 w j).a6++t)=true\/(x6 w' j).a6=(x6 w j).a6:=fun j hj hjn t ht=>by
  by_cases q:j=(i:Int)
  ·subst q;rw [hJi] at ht;left;rw [<-ht];exact hn'.list
  ·right;rw [hJ,if_neg q]
 have old:∀t∈w.Told,t.Node=t.a0.d6/\D3 t.Node/\(∃a∈w'.c9,a.a0=t.a0)/\((x6 w' t.Node).i7=true->t.a0.Seq<(x6 w' t.Node).Seq)/\a7K (x6 w' t.Node).a6 t:=by
  intro t q;obtain ⟨x1,x2,x3,x4,x5⟩:=h.tn t q;refine ⟨x1,x2,by rw [hk];exact x3,fun hb => ?_,?_⟩
  ·rw [hsq];refine x4 ?_;rw [hJ] at hb;split at hb
   ·rename_i q;rw [q];rcases ha.bw with ⟨b,_⟩|b
    ·rw [<-b];exact hb
    ·rw [b] at hb;cases hb
   ·exact hb
  ·obtain ⟨t',ht'⟩:=hkn t.Node;rw [ht'];by_cases q:t.Node=(i:Int)
   ·refine x5.app ?_;rw [<-ht',q,hJi];exact hn'.list
   ·have:t'=[]:=by
     rw [hJ,if_neg q] at ht';have:=congrArg List.length ht';rw [e8O] at this;exact e8N (by omega)
    rw [this,e9b];exact x5
 have new:∀t∈ts,(t.Node=t.a0.d6/\D3 t.Node/\(∃a∈w'.c9,a.a0=t.a0)/\((x6 w' t.Node).i7=true->t.a0.Seq<(x6 w' t.Node).Seq)/\a7K (x6 w' t.Node).a6 t)/\ts=[t]/\(x6 w (i:Int)).i7=true/\t.a0=⟨(i:Int),(x6 w (i:Int)).Seq⟩:=by
  intro t q;rcases ha.to with e|⟨b1,b2,k,b3,b4⟩
  ·rw [e] at q;cases q
  ·rw [b4] at q;have q:=e8J.1 q;have hw:(x6 w (i:Int)).b6.a0=⟨(i:Int),(x6 w (i:Int)).Seq⟩/\(x6 w (i:Int)).b6.i8=false:=by
    rcases hni.wt with y|y
    ·exact ⟨by rw [y.2.2.2.2,hid],y.2.2.2.1⟩
    ·rw [b1] at y;cases y.1
   have hlg:=(h.nd (i:Int) hD).wt b1;rcases hlg with y|⟨a,a1,a2,_⟩
   ·rw [hw.2] at y;cases y
   ·subst q;refine ⟨⟨?_,by show D3 _;rw [hid];exact hD,⟨a,by rw [hk];exact a1,a2⟩,?_,?_⟩,b4,b1,hw.1⟩
    ·show (x6 w (i:Int)).Id=(x6 w (i:Int)).b6.a0.d6
     rw [hw.1,hid]
    ·show (x6 w' (x6 w (i:Int)).Id).i7=true->_
     rw [hid,hJi,b2];intro y;cases y
    ·show a7K (x6 w' (x6 w (i:Int)).Id).a6 _
     rw [hid,hJi];exact ⟨k,b3,rfl,rfl⟩
 refine ⟨fun j hj => ?_,fun m q => ?_,fun a q => ?_,by rw [hk];exact h.au,fun t q => ?_,?_⟩
 ·rw [hJ];split
  ·exact ha.nd.mono hmo
  ·exact (h.nd j hj).mono hmo
 ·exact (hm m q).elim (fun q=>(h.ml m q).mono hmo) fun q=>(ha.ml m q).mono hmo
 ·rw [hk] at q;obtain ⟨x1,x2,x3⟩:=h.aq a q;exact ⟨x1,x2,by rw [hsq];exact x3⟩
 ·rcases ht with e|e
  ·rw [e] at q;exact old t q
  ·rw [e] at q;exact (List.mem_append.1 q).elim (old t) fun q=>(new t q).1
 ·rcases ht with e|e
  ·rw [e];exact h.tu
  ·rw [e,e9H];refine e8L.2 ⟨h.tu,?_,?_⟩
   ·cases hts:ts with
    | nil=>simp
    | cons t r =>
     have:=(new t (by rw [hts];simp)).2.1;rw [hts] at this;injection this with _ hr;rw [hr];simp
   ·intro a ha' b hb' hab;obtain ⟨x,hx,rfl⟩:=List.mem_map.1 ha';obtain ⟨y,hy,rfl⟩:=List.mem_map.1 hb';obtain ⟨_,_,n3,n4⟩:=new y hy;obtain ⟨o1,o2,o3,o4,o5⟩:=h.tn x hx;rw [n4] at hab;have:x.Node=(i:Int):=by rw [o1,hab]
    have:=o4 (by rw [this];exact n3);rw [‹x.Node=(i:Int)›,hab] at this;simp only at this;omega
theorem TL.asked{w w':m5}(h:TL w)(hw:WI w){i:Nat}(hi:i<3){p:List o8}(hc:K8 (x6 w (i:Int)) p=true)(hn:w'.a9=w.a9.set i (N7 (x6 w (i:Int)) p))(hm:w'.b9=w.b9)(hk:w'.c9=w.c9++[⟨⟨(i:Int),(x6 w (i:Int)).Seq+1⟩,p⟩])(ht:w'.Told=w.Told):TL w':=by
 have hJ:=b84 hw.nl hi _ hn;have hD:D3 (i:Int):=by unfold D3;omega
 obtain ⟨hni,hid⟩:=b09 hw hD;have hJi:x6 w' (i:Int)=N7 (x6 w (i:Int)) p:=by rw [hJ,if_pos rfl]
 have hkn:∀j,(x6 w' j).a6=(x6 w j).a6:=fun j=>by
  rw [hJ];split
  ·rename_i q;subst q;rfl
  ·rfl
 have hsq:∀j,(x6 w j).Seq<=(x6 w' j).Seq:=fun j=>by
  rw [hJ];split
  ·rename_i q;subst q;show _<=(x6 w (i:Int)).Seq+1;omega
  ·exact Int.le_refl _
 have hmo:∀e,a0b w e->a0b w' e:=fun e=>a0b.mono (fun j=>⟨[],by rw [hkn,e9b]⟩) (by rw [hk];exact fun a q=>List.mem_append_left _ q)
 have hnew:∀e,a0b w e->G4 ⟨(i:Int),(x6 w (i:Int)).Seq+1⟩ e=false:=fun e he=>by
  cases hq:G4 ⟨(i:Int),(x6 w (i:Int)).Seq+1⟩ e
  ·rfl
  ·unfold G4 at hq;simp only [e8G,e9t] at hq;have hr:e.a0=⟨(i:Int),(x6 w (i:Int)).Seq+1⟩:=(a9X (b:=⟨(i:Int),(x6 w (i:Int)).Seq+1⟩)).1 hq.2;rcases he with he|⟨a,a1,a2,_⟩
   ·rw [hq.1] at he;cases he
   ·have:=(h.aq a a1).2.2;rw [a2,hr] at this;simp only at this;omega
 have hnd:=h.nd (i:Int) hD;refine ⟨fun j hj => ?_,fun m q=>(h.ml m (hm▸q)).mono hmo,fun a q => ?_,?_,fun t q => ?_,by rw [ht];exact h.tu⟩
 ·rw [hJ];split
  ·refine ⟨fun e q=>hmo e (hnd.kn e q),fun v q b=>hmo _ (hnd.av v q b),fun v q b=>hmo _ (hnd.bv v q b),fun q=>hmo _ (hnd.cu q),fun _ => ?_,fun e q=>hmo e (hnd.qu e q)⟩;refine .inr ⟨⟨⟨(i:Int),(x6 w (i:Int)).Seq+1⟩,p⟩,by rw [hk];simp,?_,(x6 w (i:Int)).a6.length,?_,?_,?_⟩
   ·show _=(⟨(x6 w (i:Int)).Id,(x6 w (i:Int)).Seq+1⟩:p8)
    rw [hid]
   ·show _<=(x6 w' (x6 w (i:Int)).Id).a6.length
    rw [hid,hkn];exact e9h _
   ·show ∀x∈(x6 w' (x6 w (i:Int)).Id).a6.take _,G4 (⟨(x6 w (i:Int)).Id,(x6 w (i:Int)).Seq+1⟩:p8) x=false
    rw [hid,hkn,e85];exact fun x hx=>hnew x (hnd.kn x hx)
   ·show _=E5 (z5 ((x6 w' (x6 w (i:Int)).Id).a6.take _)).1.g8 p
    rw [hid,hkn,e85];rfl
  ·exact (h.nd j hj).mono hmo
 ·rw [hk] at q;rcases List.mem_append.1 q with q|q
  ·obtain ⟨x1,x2,x3⟩:=h.aq a q;exact ⟨x1,x2,Int.le_trans x3 (hsq _)⟩
  ·rw [e8J.1 q];refine ⟨hD,by have:=hni.sq;show 1<=(x6 w (i:Int)).Seq+1;omega,?_⟩;show _<=(x6 w' (i:Int)).Seq
   rw [hJi];exact Int.le_refl _
 ·rw [hk,e9H];refine e8L.2 ⟨h.au,by simp,?_⟩;intro a ha b hb hab;obtain ⟨x,hx,rfl⟩:=List.mem_map.1 ha;rw [List.map_singleton,e8J] at hb;have:=(h.aq x hx).2.2;rw [hab,hb] at this;simp only at this;omega
 ·rw [ht] at q;obtain ⟨x1,x2,⟨a,a1,a2⟩,x4,x5⟩:=h.tn t q;refine ⟨x1,x2,⟨a,by rw [hk];exact List.mem_append_left _ a1,a2⟩,fun hb => ?_,by rw [hkn];exact x5⟩;rw [hJ] at hb ⊢;split
  ·rename_i q;have:=(h.aq a a1).2.2;rw [a2,<-x1,q] at this;show _<(x6 w (i:Int)).Seq+1
   omega
  ·rename_i q;rw [if_neg q] at hb;exact x4 hb
theorem d4e{w:m5}(h:WI w)(ht:TL w){e:p6}(he:L3 e):TL (C6 w e):=by
 have h0:a0b w eN:=.inl rfl;unfold C6;cases hk:e.a7==2||(e.a7==3||e.a7==4)
 ·simp only [cond_false];cases hA:n9 e.A 0 2
  ·exact ht
  simp only [e8H,cond_false];rw [J1] at hA;obtain ⟨i,hi⟩:∃i:Nat,e.A=(i:Int):=⟨e.A.toNat,by omega⟩
  have hi3:i<3:=by omega
  have hD:D3 (i:Int):=by unfold D3;omega
  rw [hi];have hN:x6 w (i:Int)=K5 w (i:Int):=a8r hD;obtain ⟨hni,hid⟩:=b09 h hD;have hnd:=ht.nd (i:Int) hD;rw [<-hN];cases e.a7==1
  ·cases e.a7==5
   ·cases e.a7==6
    ·cases e.a7==7
     ·exact ht
     ·exact ht.step h.nl hi3 hni hid hni.fall (.fall hnd) rfl (fun m q=>.inl q) rfl (.inl rfl)
    ·exact ht.step h.nl hi3 hni hid (b7Y hni).ni (.retry hnd h0) rfl (fun m q=>a9g (w:=R3 w _ _) q) rfl (.inl rfl)
   ·exact ht.step h.nl hi3 hni hid (b5w hni).ni (.rise hnd) rfl (fun m q=>a9g (w:=R3 w _ _) q) rfl (.inl rfl)
  ·simp only [cond_true];unfold a7H;cases hal:decide (60<=w.c9.length)
   ·rw [<-hN];simp only [cond_false];rw [d2y];cases hc:K8 (x6 w (i:Int)) e.i5
    ·simp only [cond_false];rw [a2w,hc];exact ht.step h.nl hi3 hni hid hni (.same hnd) rfl (fun m q=>a9g (w:=R3 w _ _) q) rfl (.inl rfl)
    ·simp only [cond_true];have hf:t6 e.i5:=z7.fits he (by decide);have hwq:(M9 (x6 w (i:Int)) e.i5).1.b6.a0=⟨(i:Int),(x6 w (i:Int)).Seq+1⟩:=by
      rw [c1z hc];show (⟨(x6 w (i:Int)).Id,_⟩:p8)=_;rw [hid]
     rw [hwq];have h1:TL ⟨w.a9.set i (N7 (x6 w (i:Int)) e.i5),w.b9,w.c9++[⟨⟨(i:Int),(x6 w (i:Int)).Seq+1⟩,e.i5⟩],w.Told⟩:=ht.asked h hi3 hc rfl rfl rfl rfl;have hJ:=b84 (w':=⟨w.a9.set i (N7 (x6 w (i:Int)) e.i5),w.b9,w.c9++[⟨⟨(i:Int),(x6 w (i:Int)).Seq+1⟩,e.i5⟩],w.Told⟩) h.nl hi3 _ rfl (i:Int);rw [if_pos rfl] at hJ;have hnd1:=h1.nd (i:Int) hD;rw [hJ] at hnd1;have hni1:=hni.asked hf hc;have hcan:=hc;refine h1.step (i:=i) (n':=(M9 (x6 w (i:Int)) e.i5).1) (l:=(M9 (x6 w (i:Int)) e.i5).2) (ts:=[]) (by show (w.a9.set i _).length=3;rw [e9N];exact h.nl) hi3 (by rw [hJ];exact hni1) (by rw [hJ];exact hid) (b5X hni hf).ni ?_ ?_ (fun m q=>a9g (w:=R3 ⟨w.a9,w.b9,w.c9++[_],w.Told⟩ _ _) q) rfl (.inl rfl)
     ·rw [hJ];rw [a2w,hc];have h0':a0b ⟨w.a9.set i (N7 (x6 w (i:Int)) e.i5),w.b9,w.c9++[⟨⟨(i:Int),(x6 w (i:Int)).Seq+1⟩,e.i5⟩],w.Told⟩ eN:=.inl rfl;simp only [cond_true];cases (x6 w (i:Int)).d9==2
      ·refine .of rfl rfl rfl rfl rfl hnd1 fun x hx => ?_
       simp only [cond_false] at hx;cases hp0:(x6 w (i:Int)).d9==0
       ·rw [hp0] at hx;cases hx
       ·rw [hp0] at hx;exact (ML.has rfl (hnd1.wt rfl)).all hx
      ·exact .propose hnd1 h0'
     ·show w.a9.set _ _=(w.a9.set i _).set i _
      rw [List.set_set];rfl
   ·exact ht
 ·simp only [cond_true];unfold a17;cases hA:decide (0<=e.A)
  ·exact ht
  simp only [cond_true];cases hm:w.b9[e.A.toNat]? with
  | none=>exact ht
  | some m =>
   have hmem:=e8P hm;have hmi:=h.ms m hmem;have hself:∀{w':m5},w'.a9=w.a9->w'.c9=w.c9->w'.Told=w.Told->(∀x∈w'.b9,x∈w.b9)->TL w':=fun {w'} e1 e2 e3 e4=>by
    obtain ⟨hni,hid⟩:=b09 h (i:=0) (by unfold D3;omega);refine ht.step (i:=0) h.nl (by omega) hni hid hni (.same (ht.nd 0 (by unfold D3;omega))) ?_ (fun x q=>.inl (e4 x q)) e2 (.inl e3);rw [e1];have hl:=h.nl;have:x6 w ((0:Nat):Int)=w.a9[0]:=by
     rw [a8r (by unfold D3;omega)];show w.a9.getD 0 _=_
     rw [e8Q,e8D (by omega)];rfl
    rw [show x6 w 0=w.a9[0] from this,f0a]
   simp only;cases e.a7==4
   ·cases e.a7==3
    ·simp only [cond_false];have hto:=hmi.to;obtain ⟨t,htt⟩:∃t:Nat,m.To=(t:Int):=⟨m.To.toNat,by omega⟩
     have hD:D3 (t:Int):=by unfold D3;omega
     have hN:x6 w (t:Int)=K5 w (t:Int):=a8r hD;obtain ⟨hni,hid⟩:=b09 h hD;rw [htt,<-hN];have hact:=Act.take (ht.nd (t:Int) hD) h0 (ht.ml m hmem) hmi;refine ht.step h.nl (i:=t) (by omega) hni hid (b3G hni hmi).ni hact rfl (fun x q=>(a9g (w:=R3 (a3i w e.A) _ _) q).imp (fun q=>c5I q) id) rfl ?_;show (w.Told++List.take (60-w.Told.length) _=w.Told\/_)
     have hl1:=(b54 hni m).2;rcases Nat.eq_zero_or_pos (60-w.Told.length) with q|q
     ·left;rw [q,e9e,e9b]
     ·right
      show w.Told++List.take (60-w.Told.length) _=_
      rw [e86 (by omega)]
    ·exact hself rfl rfl rfl fun x q=>c5I q
   ·exact hself rfl rfl rfl fun x q=>(a9g q).elim id fun q=>by rw [e8J.1 q];exact hmem
theorem d4l:TL N9:=by
 have hn:∀j,D3 j->x6 N9 j=C4 j:=fun j hj=>by
  rw [a8r hj];unfold D3 at hj;obtain rfl|rfl|rfl:j=0\/j=1\/j=2:=by omega
  all_goals rfl
 refine ⟨fun i hi => ?_,fun m hm=>(by cases hm),fun a ha=>(by cases ha),by simp [N9],fun t ht=>(by cases ht),by simp [N9]⟩;rw [hn i hi];exact ⟨by simp [C4],by simp [C4],by simp [C4],fun q=>absurd (show (0:Int)=3 from q) (by decide),fun q=>(by cases q),by simp [C4]⟩
theorem c9z:∀{l:List p6} {w:m5},WI w->TL w->(∀e∈l,L3 e)->TL (a1f w l)
 | [],_,_,h,_=>h
 | e::l,w,hw,h,he=>c9z (l:=l) (w:=C6 w e) (a63 hw (he e (by simp))).2 (d4e hw h (he e (by simp))) fun x hx=>he x (by simp [hx])
section
variable {w:m5}
theorem e6K(h:WI w){i:Nat}(hi:i<w.a9.length):w.a9[i]=x6 w (i:Int)/\i<3:=by
 have hl:=h.nl;rw [a8r (by unfold D3;omega)];unfold K5;rw [e82,e8Q,e8D hi];exact ⟨rfl,by omega⟩
theorem e2e(ht:TL w){a:u5}(ha:a∈w.c9):b6B w a.a0=(a.i5,true):=by
 unfold b6B b92;have hex:∃b,w.c9.find? (fun x=>(([x.a0.d6,x.a0.Seq]:List Int)==[a.a0.d6,a.a0.Seq]))=some b:=by
  cases hf:w.c9.find? (fun x=>(([x.a0.d6,x.a0.Seq]:List Int)==[a.a0.d6,a.a0.Seq])) with
  | some b=>exact ⟨b,rfl⟩
  | none =>
   have:=List.find?_eq_none.1 hf a ha;simp at this
 obtain ⟨b,hb⟩:=hex;rw [hb];have hbm:=List.mem_of_find?_eq_some hb;have hbr:=List.find?_some hb;have hbr:=a9X.1 hbr;obtain ⟨i,hi,rfl⟩:=e9s ha;obtain ⟨j,hj,rfl⟩:=e9s hbm;have hij:i=j:=by
  rcases Nat.lt_trichotomy i j with q|q|q
  ·exact absurd (by rw [List.getElem_map,List.getElem_map];exact hbr.symm) (e9d.1 ht.au i j (by rw [e9r];omega) (by rw [e9r];omega) q)
  ·exact q
  ·exact absurd (by rw [List.getElem_map,List.getElem_map];exact hbr) (e9d.1 ht.au j i (by rw [e9r];omega) (by rw [e9r];omega) q)
 subst hij;rfl
theorem c76{α:Type}[DecidableEq α]:∀{l m:List α},l.Nodup->(∀x∈l,x∈m)->l.length<=m.length
 | [],_,_,_=>e9L _
 | x::l,m,hn,hs=>by
  have hx:=hs x (by simp);have h1:=e9x.1 hn;have:=c76 (l:=l) (m:=m.erase x) h1.2 fun y hy=>by
   have hne:y≠x:=fun q=>h1.1 (q▸hy)
   exact (List.mem_erase_of_ne hne).2 (hs y (by simp [hy]))
  rw [List.length_erase_of_mem hx] at this;have:0<m.length:=List.length_pos_of_mem hx;rw [e9l];omega
end
section
variable {w:m5}
theorem e7t(ht:TL w):w.Told.length<=w.c9.length:=by
 have := @c76 _ (fun a b=>Classical.propDecidable (a=b)) _ (w.c9.map (·.a0)) ht.tu fun x hx=>by
  obtain ⟨t,h1,rfl⟩:=List.mem_map.1 hx;obtain ⟨_,_,⟨a,a1,a2⟩,_⟩:=ht.tn t h1;exact List.mem_map.2 ⟨a,a1,a2⟩
 simpa using this
theorem d71(h:WI w)(ht:TL w){i:Nat}(hi:i<3)(hb:(x6 w (i:Int)).i7=true){t:m8}(hm:t∈w.Told):t.a0≠(x6 w (i:Int)).b6.a0:=by
 intro e;have hD:D3 (i:Int):=by unfold D3;omega
 obtain ⟨hni,hid⟩:=b09 h hD;rcases hni.wt with y|y
 ·have hw:(x6 w (i:Int)).b6.a0=⟨(i:Int),(x6 w (i:Int)).Seq⟩:=by rw [y.2.2.2.2,hid]
  obtain ⟨x1,x2,x3,x4,_⟩:=ht.tn t hm;rw [hw] at e;have hn:t.Node=(i:Int):=by rw [x1,e]
  rw [hn] at x4;have:=x4 hb;rw [e] at this;simp only at this;omega
 ·rw [hb] at y;cases y.1
end
theorem e6a{code:List Int}(h:z7 1 a5L code):c1D code=some true:=by
 unfold c1D;cases decide ((code.length:Int)>1048576);case true=>rfl
 obtain ⟨l,a1,a2,a3⟩:=d2O h.2;obtain ⟨p1,p2,hw⟩:=e57 a2 a3;have ht:=c9z WI.open d4l a2;simp only [cond_false,a1,d5y,c3y,p1,p2,e8C,d53 hw.ok,e8H];generalize a1f N9 l=w at hw ht;have hf:t6 w.Told:=z7.fits hw.ok.2.2.2 (by decide);have hl:w.a9.length=3:=hw.nl;have hn3:((w.a9.length:Int) != 3)=false:=by rw [hl];rfl
 rw [hn3,cond_false];have l1:o9 (fun s:Int=>b0t w s) 0=some (.brk ()):=by
  rw [O3 w.Told hf (fun _=>true) false () (fun k hk => ?_) (by unfold b0t;rw [A3];rfl)]
  ·rw [List.all_eq_true.2 fun _ _=>rfl];rfl
  ·have hm:=e8F hk;obtain ⟨x1,x2,⟨a,b1,b2⟩,_⟩:=ht.tn _ hm;unfold b0t;have hp:=e2e ht b1;rw [b2] at hp;have hne:(w.Told[k].Node != w.Told[k].a0.d6)=false:=by rw [x1];simp
   simp only [w8 _ k hk,cond_true,u0 hk,e8C,d9r hw.ok,hp,e8H,cond_false,hne]
 have l2:o9 (fun s:Int=>a4y w s) 0=some (.brk ()):=by
  have:=X3 (body:=fun s:Int=>a4y w s) (fun k=>(k:Int)) 3 fun k hk=>by
   show a4y w (k:Int)=_
   have hk':k<w.a9.length:=by omega
   obtain ⟨e,_⟩:=e6K hw hk';have hn:m7 ((k:Int)+1)=((k+1:Nat):Int):=by rw [B6 (by omega) (by omega)];omega
   unfold a4y;rw [decide_eq_true (by omega),cond_true,u0 hk',e8C];cases hb:w.a9[k].i7
   ·simp only [e8W,cond_true,hn]
   ·simp only [e8H,cond_false];rw [e] at hb;rw [O3 w.Told hf (fun _=>true) false () (fun j hj => ?_) (by unfold b6U;rw [A3];rfl)]
    ·simp only [List.all_eq_true.2 fun _ _=>rfl,cond_true,e8C,l8.go,b83,hn]
    ·unfold b6U;have hne:(([w.Told[j].a0.d6,w.Told[j].a0.Seq]:List Int)==[(x6 w (k:Int)).b6.a0.d6,(x6 w (k:Int)).b6.a0.Seq])=false:=by
      rw [Bool.eq_false_iff];exact fun q=>d71 hw ht hk hb (e8F hj) (a9X.1 q)
     simp only [w8 _ j hj,cond_true,u0 hj,u0 hk',e,e8C,hne,cond_false]
  refine (show o9 _ ((0:Nat):Int)=_ from this).trans (C2 ?_);show a4y w 3=_
  unfold a4y;rfl
 rw [l1,e8C];simp only [l8.go,b8y,l2,e8C,c0r];have:=e7t ht;rw [decide_eq_true (by omega)]
end
end Go.Proofs.YtiplopknlhknjaaGreat
