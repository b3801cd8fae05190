/- Abstract values and states of the program, functions of the program and what their calls come to, and what follows from it: part 4 of the text that the law leans on; long names are written short. -/
import Derived.Test.YtnafpblodcmpkaaGreatP3
set_option linter.unusedVariables false
set_option linter.unusedSimpArgs false
set_option linter.unnecessarySimpa false
namespace Go.Proofs.YtnafpblodcmpkaaGreat
open Go
open Option renaming bind_some->d8Y,map_some->d9t
open List renaming getElem?_eq_getElem->d8Z,mem_append->d80,replicate->d81,getElem?_eq_some_iff->d83,mem_singleton->d84,getElem_mem->d85,all_eq_true->d86,range->d87,mem_cons->d88,nodup_append->d89,mem_of_getElem?->d9a,getD_eq_getElem?_getD->d9b,eq_nil_of_length_eq_zero->d9c,length_append->d9d,getElem?_append_right->d9f,length_map->d9g,getElem?_set_ne->d9h,getElem?_append_left->d9i,map_append->d9j,append_assoc->d9k,mem_map->d9l,flatten_cons->d9n,getElem?_map->d9o,mem_or_eq_of_mem_set->d9r,map_cons->d9s,drop_eq_nil_of_le->d9v,take_of_length_le->d9w,take_append_of_le_length->d9y,length_set->d9A,mem_of_mem_take->d9C,append_nil->d9D,getElem?_eq_none->d9E,drop_eq_getElem_cons->d9F,pairwise_iff_getElem->d9G,take_succ_eq_append_getElem->d9H,take_length->d9L,mem_flatten->d9M,mem_of_mem_drop->d9N,mem_replicate->d9P,take_zero->d9S,nil_append->d9U,mem_filter->d9V,getElem_of_mem->d9W,any_eq_false->d9X,mem_range->d9Z,length_singleton->d90,length_take->d91,length_cons->d92,mem_append_left->d96,findIdx?_eq_some_iff_getElem->d98,getElem?_set_self->d99,drop_zero->e0c,pairwise_cons->e0d,map_singleton->e0e,mem_take_iff_getElem->e0f,getElem?_cons_succ->e0g,getElem?_drop->e0j,map_map->e0l,getElem?_set->e0o,getElem?_of_mem->e0q,pairwise_append->e0r,cons_append->e0w,replicate_succ->e0x,set_getElem_self->e0E,length_replicate->e0G,getElem?_append->e0H,any_eq_true->e0I,findIdx?_eq_none_iff->e0L,map_set->e0M
open Bool renaming and_eq_true->d82,not_true->d9e,true_and->d9m,not_false->d9u,or_eq_false_iff->d9O,not_eq_true'->d9R,false_eq_true->d94,false_or->d95,and_true->e0a,true_or->e0F,and_assoc->e0N
open Int renaming le_refl->d9p,toNat_natCast->d9q,tmod->d9x,le_trans->d9I,tmod_eq_emod_of_nonneg->e0n
open Nat renaming le_refl->d9B,le_trans->d9T,add_zero->e0B
open Option.some renaming inj->d9K
noncomputable section
theorem c1Y{l:List p7}:a2d l=true↔(∀x∈l,b4s x)/\l.Pairwise fun a b=>a.g7≠b.g7:=by
 unfold a2d;constructor
 ·intro h;refine ⟨c5S h,?_⟩;rw [d9G];intro i j hi hj hij heq;have:=d86.1 h j (by simpa using hj);unfold Q3 at this;rw [d8Z hj] at this;simp only [d82,d9R] at this;have hs:=this.2.2;unfold H5 at hs;rw [d9X] at hs;refine hs l[i] ?_ (by simpa using heq);rw [e0f];exact ⟨i,by omega,rfl⟩
 ·rintro ⟨h1,h2⟩
  rw [d86];intro k hk;have hk:k<l.length:=by simpa using hk
  unfold Q3;rw [d8Z hk];have hf:=h1 _ (d85 hk);have hs:H5 (l.take k) l[k].g7=false:=by
   unfold H5;rw [d9X];intro x hx;obtain ⟨i,hi,rfl⟩:=e0f.1 hx;have:=d9G.1 h2 i k (by omega) hk (by omega);simpa using this
  simp only [hs,d9u,e0a,d82];unfold b4s at hf;exact ⟨by simp [m9];omega,by simp [m9];omega⟩
theorem b1c{l:List o7}:a0q l=true↔(∀x∈l,a1C x)/\l.Pairwise fun a b=>a.g7≠b.g7:=by
 unfold a0q;constructor
 ·intro h;refine ⟨c4T h,?_⟩;rw [d9G];intro i j hi hj hij heq;have:=d86.1 h j (by simpa using hj);unfold Q4 at this;rw [d8Z hj] at this;simp only [d82,d9R] at this;have hs:=this.2.2;unfold O4 at hs;rw [d9X] at hs;refine hs l[i] ?_ (by simpa using heq);rw [e0f];exact ⟨i,by omega,rfl⟩
 ·rintro ⟨h1,h2⟩
  rw [d86];intro k hk;have hk:k<l.length:=by simpa using hk
  unfold Q4;rw [d8Z hk];have hf:=h1 _ (d85 hk);have hs:O4 (l.take k) l[k].g7=false:=by
   unfold O4;rw [d9X];intro x hx;obtain ⟨i,hi,rfl⟩:=e0f.1 hx;have:=d9G.1 h2 i k (by omega) hk (by omega);simpa using this
  simp only [hs,d9u,e0a,d82];unfold a1C at hf;exact ⟨by simp [m9];omega,by simp [m9];omega⟩
theorem d72{l:List p7}{x:p7}(h:a2d l=true)(hx:b4s x)(hs:H5 l x.g7=false):a2d (l++[x])=true:=by
 rw [c1Y] at h ⊢;refine ⟨fun y hy => ?_,?_⟩
 ·rcases d80.1 hy with hy|hy
  ·exact h.1 y hy
  ·rw [d84.1 hy];exact hx
 ·rw [e0r];refine ⟨h.2,by simp,fun a ha b hb => ?_⟩;rw [d84.1 hb];unfold H5 at hs;rw [d9X] at hs;simpa using hs a ha
theorem d38{l:List o7}{x:o7}(h:a0q l=true)(hx:a1C x)(hs:O4 l x.g7=false):a0q (l++[x])=true:=by
 rw [b1c] at h ⊢;refine ⟨fun y hy => ?_,?_⟩
 ·rcases d80.1 hy with hy|hy
  ·exact h.1 y hy
  ·rw [d84.1 hy];exact hx
 ·rw [e0r];refine ⟨h.2,by simp,fun a ha b hb => ?_⟩;rw [d84.1 hb];unfold O4 at hs;rw [d9X] at hs;simpa using hs a ha
theorem c8e{l:List o7}{k:Nat}{v:Int}(h:a0q l=true)(hk:k<l.length)(hv:-1000000<=v/\v<=1000000):a0q (l.set k ⟨l[k].g7,v⟩)=true:=by
 rw [b1c] at h ⊢;refine ⟨fun y hy => ?_,?_⟩
 ·rcases d9r hy with hy|rfl
  ·exact h.1 y hy
  ·have:=h.1 _ (d85 hk);exact ⟨this.1,this.2.1,hv⟩
 ·rw [d9G];intro i j hi hj hij;have hi':i<l.length:=by simpa using hi
  have hj':j<l.length:=by simpa using hj
  have hne:=d9G.1 h.2 i j hi' hj' hij;rw [List.getElem_set,List.getElem_set];split<;>split<;>simp_all
theorem a4K(r:m8):O6 r=(m9 r.Code 0 3&&(m9 r.c7 (-1000000) 1000000&&((r.Code==0||(r.c7==0&&r.b6.length==0))&&((r.Code != 3||r.b5.length==0)&&(a2d r.b5&&a0q r.b6))))):=rfl
def inV(v:Int):Prop := -1000000<=v/\v<=1000000
structure Way(r:m8)(n:Nat):Prop where
 val:r.c7=0
 reads:a2d r.b5=true
 puts:a0q r.b6=true
 rlen:r.b5.length<=n
 plen:r.b6.length<=n
structure Ran(r:m8):Prop where
 ok:O6 r=true
 rlen:r.b5.length<=40
 plen:r.b6.length<=40
theorem b0o{r:m8}{n:Nat}(h:Way r n)(hn:n<=40)(hc:r.Code=0\/r.Code=1\/r.Code=2){v:Int}(hv:r.Code=0->inV v):Ran ⟨r.b5,bif r.Code != 0 then [] else r.b6,bif r.Code != 0 then r.c7 else v,r.Code⟩:=by
 have h1:=h.rlen;have h2:=h.plen;have hR:=h.reads;have hP:=h.puts;have hP0:a0q []=true:=rfl;rcases hc with hc|hc|hc
 ·have hv:=hv hc;unfold inV at hv;refine ⟨?_,by simp only;omega,by simp only [hc];simp;omega⟩;rw [a4K];simp [hc,hR,hP,m9,hv]
 ·refine ⟨?_,by simp only;omega,by simp [hc]⟩;rw [a4K];simp [hc,hR,hP0,m9,h.val]
 ·refine ⟨?_,by simp only;omega,by simp [hc]⟩;rw [a4K];simp [hc,hR,hP0,m9,h.val]
theorem d7f{r:t5}{m:Nat}(h:Rd r m)(hm:m<=100000000):∃i r',b2Y r=some (i,r')/\Rd r' (m+10):=by
 obtain ⟨k,r1,a1,a2,a3⟩:=a3f h (by omega) [1,1,2,2,3,4,4,5,6,7] (by decide) (by decide);obtain ⟨p1,r2,b1,b2,b3,b4⟩:=P9 a2 (by omega) 3;obtain ⟨p2,r3,c1,c2,c3,c4⟩:=P9 b2 (by omega) 3;unfold b2Y;simp only [a1,b1,c1,d8Y];cases h3:k==3
 ·cases h6:k==6
  ·cases h7:k==7
   ·exact ⟨_,_,rfl,c2.mono (by omega)⟩
   ·obtain ⟨p3,r4,d1,d2,d3,d4⟩:=P9 c2 (by omega) 3;simp only [e0O,e0P,d1,d8Y];cases decide (p3>0)
    ·exact ⟨_,_,rfl,d2.mono (by omega)⟩
    ·obtain ⟨p4,r5,e1,e2,e3,e4⟩:=P9 d2 (by omega) 4;obtain ⟨p5,r6,f1,f2,f3,f4⟩:=P9 e2 (by omega) 4;simp only [e0O,e1,f1,d8Y];exact ⟨_,_,rfl,f2.mono (by omega)⟩
  ·obtain ⟨p3,r4,d1,d2,d3,d4⟩:=P9 c2 (by omega) 3;simp only [e0O,e0P,d1,d8Y];exact ⟨_,_,rfl,d2.mono (by omega)⟩
 ·obtain ⟨n1,r4,d1,d2,d3⟩:=a3f c2 (by omega) [0,1,5,(-2),100,1000000] (by decide) (by decide);simp only [e0O,d1,d8Y];exact ⟨_,_,rfl,d2.mono (by omega)⟩
theorem c1B{r:t5}{m:Nat}(h:Rd r m)(hm:m<=50000000):∃p r',a8C r=some (p,r')/\Rd r' (m+200)/\p.length<=10:=by
 obtain ⟨v,r1,a1,a2,a3,a4⟩:=P9 h (by omega) 3;unfold a8C;simp only [a1,d8Y];cases v==0
 ·obtain ⟨k,r2,b1,b2,b3,b4⟩:=P9 a2 (by omega) 8;simp only [e0P,b1,d8Y];obtain ⟨x,hx,hq⟩:=b07 (body:=fun s:t5×(List m5)×Int=>b3N s.1 s.2.1 s.2.2)
   (fun j s=>s.2.2=(j:Int)/\j<=8/\Rd s.1 (m+2+10*(8-j))/\s.2.1.length+j<=8)
   (fun x=>match x with
    | .ret _=>False
    | .brk b=>Rd b.1 (m+200)/\b.2.length<=10)
   (by
    rintro j ⟨r,out,i⟩ ⟨q1,q2,q3,q4⟩
    simp only at q1 q3 q4 ⊢;subst q1;unfold b3N;cases j with
    | zero=>exact ⟨_,rfl,q3.mono (by omega),by simp only;omega⟩
    | succ j=>
     obtain ⟨i,r',d1,d2⟩:=d7f q3 (by omega);have hpos:decide (((j+1:Nat):Int)>0)=true:=by simp
     have n1:(out.length+1)*32<=140737488355328:=by omega
     rw [hpos,e0O,d1,d8Y,x6 n1,B4 (by omega) (by omega)];exact ⟨_,rfl,j,by omega,by simp only;omega,by omega,d2.mono (by omega),by simp;omega⟩) (k:=k.toNat) (s:=(r2,[],k)) ⟨by simp only;omega,by omega,b2.mono (by omega),by simp;omega⟩
  rw [hx,d8Y];cases x with
  | ret r=>cases hq
  | brk b=>exact ⟨_,_,rfl,hq.1,hq.2⟩
 ·obtain ⟨p1,r2,b1,b2,b3,b4⟩:=P9 a2 (by omega) 3;obtain ⟨p2,r3,c1,c2,c3,c4⟩:=P9 b2 (by omega) 3;obtain ⟨p3,r4,d1,d2,d3,d4⟩:=P9 c2 (by omega) 3;simp only [e0O,b1,c1,d1,d8Y];exact ⟨_,_,rfl,d2.mono (by omega),by simp⟩
def d4Z(e:l7):Prop:=e.d6.b5.length<=40/\e.d6.b6.length<=40
def drawn(l:List l7):Prop:=l.length<=41/\∀e∈l,d4Z e
theorem d2I{l:List l7}(h:z0 88 a1O l):b0R l=some (bif G6 l then (u5 l).1 else ⟨0,[],[]⟩):=by
 unfold b0R;rw [c0z h,d8Y];cases hok:G6 l
 ·rfl
 ·obtain ⟨hl,he⟩:=a6R hok;rw [d9e,e0P,c5N h hl he];rfl
theorem c7j{r:m8}(h:O6 r=true):a0q r.b6=true:=by
 rw [a4K] at h;simp only [d82] at h;exact h.2.2.2.2.2
def d8f(l:List l7)(cs:List Int)(k:Nat):List p9:=match cs[k]?,l[k]? with
 | some c,some e=>bif c==0 then [e.a7] else []
 | _,_=>[]
def told(l:List l7)(cs:List Int):Nat->List p9
 | 0=>[]
 | k+1=>told l cs k++d8f l cs k
theorem a3v{ps:List o7}(h:ps.Pairwise fun p q=>p.g7≠q.g7)(b:Int):(ps.filter fun p=>p.g7==b).length<=1:=by
 have h2:=h.filter (fun p=>p.g7==b);cases hq:ps.filter fun p=>p.g7==b with
 | nil=>simp
 | cons x r=>
  cases r with
  | nil=>simp
  | cons y r=>
   rw [hq] at h2;have hne:=(e0d.1 h2).1 y (by simp);have hx:x∈ps.filter fun p=>p.g7==b:=by rw [hq];simp
   have hy:y∈ps.filter fun p=>p.g7==b:=by rw [hq];simp
   have hx:=(d9V.1 hx).2;have hy:=(d9V.1 hy).2;simp only [beq_iff_eq] at hx hy;omega
theorem b4X:∀{ps:List o7},(∀p∈ps,a1C p)->ps.length=(ps.filter fun p=>p.g7==0).length+(ps.filter fun p=>p.g7==1).length+(ps.filter fun p=>p.g7==2).length+(ps.filter fun p=>p.g7==3).length
 | [],_=>rfl
 | p::ps,h=>by
  have ih:=b4X (ps:=ps) fun x hx=>h x (by simp [hx])
  have hp:=h p (by simp);have:p.g7=0\/p.g7=1\/p.g7=2\/p.g7=3:=by
   have:=hp.1;have:=hp.2.1;omega
  simp only [List.filter_cons,d92];rcases this with q|q|q|q<;>simp [q]<;>omega
theorem d02{r:m8}(h:O6 r=true):r.b6.length<=4:=by
 have h1:=(b1c.1 (c7j h))
 have h2:=b4X h1.1;have a:=a3v h1.2 0;have b:=a3v h1.2 1;have c:=a3v h1.2 2;have d:=a3v h1.2 3;omega
theorem okEntries.s{l:List l7}(h:z0 88 I7 l):z0 88 a1O l:=h.imp fun _ x=>x.f
theorem a1I(c x:Bool):(bif c then some x else some false)=some (c&&x):=by cases c<;>rfl
theorem a8b(c x:Bool):(bif c then some false else some x)=some (!c&&x):=by cases c<;>rfl
theorem d3o(n lo hi:Int):m9 n lo hi=(!decide (n<lo) && !decide (n>hi)):=by
 unfold m9;by_cases h1:n<lo<;>by_cases h2:n>hi<;>simp [h1,h2]<;>omega
theorem rng{α:Type}(n lo hi:Int)(X Y:α):(bif decide (n<lo) then Y else bif decide (n>hi) then Y else X)=bif m9 n lo hi then X else Y:=by
 rw [d3o];cases decide (n<lo)<;>cases decide (n>hi)<;>rfl
theorem b7l{α:Type}(n lo:Int)(X Y:α):(bif decide (n<lo) then Y else bif decide (n>=3) then Y else X)=bif m9 n lo 2 then X else Y:=by
 have e:decide (n>=3)=decide (n>2):=by
  by_cases h:n>2
  ·rw [decide_eq_true h,decide_eq_true (by omega)]
  ·rw [decide_eq_false h,decide_eq_false (by omega)]
 rw [<-rng,e]
theorem a25(a b:Int):(!decide (a>b))=decide (a<=b):=by
 by_cases h:a<=b
 ·simp [h]
 ·simp [h];omega
theorem c4N{α:Type}(l:List α):decide ((l.length:Int)>0) = !((l.length:Int)==0):=by
 by_cases hp:l.length=0
 ·rw [decide_eq_false (by omega),show ((l.length:Int)==0)=true from by rw [hp];rfl];rfl
 ·rw [decide_eq_true (by omega),show ((l.length:Int)==0)=false from by rw [<-Bool.not_eq_true,beq_iff_eq];omega];rfl
theorem a88{α:Type}[BEq α](a b:α):(!(a != b))=(a==b):=by simp [bne]
abbrev zE:l7:=⟨false,⟨0,0⟩,⟨[],[],0,0⟩⟩
def Q2(a b:l7):Bool:=(a.i7==b.i7)&&((([a.a7.b9,a.a7.Seq]:List Int)==[b.a7.b9,b.a7.Seq])&&a2i a.d6 b.d6)
theorem b3R{a b:l7}(h:I7 a):a2V a b=some (Q2 a b):=by
 unfold a2V Q2;simp only [c5W h.f.2,d8Y,a1I]
theorem b45{e:l7}(h:I7 e):a2C e=some (Q2 e zE):=by
 unfold a2C Q2;simp only [b4F h.f.2,d8Y,a1I];cases e.i7<;>rfl
theorem b0Z(n:Int):a0H n=some (m9 n 1 3000):=G2 n 1 3000
def S9(v:n7):Bool:=bif v.a5==0 then Q2 v.d7 zE else m9 v.a5 1 3000&&s9 v.d7
theorem c85{v:n7}(h:a0k v):b1U v=some (S9 v):=by
 unfold b1U S9;simp only [b3R h.2,G2,a3m h.2.f,d8Y,a1I];cases v.a5==0<;>rfl
theorem d2k{v:n7}(h:a0k v):b1V v=some (S9 v):=by
 unfold b1V S9 Q2;simp only [b4F h.2.f.2,b0Z,a5e h.2.f,d8Y,a1I];cases v.a5==0<;>cases v.d7.i7<;>rfl
def G8(l:List n7):Bool:=decide (l.length<=40)&&l.all S9
theorem b5z{l:List n7}(h:z0 96 a0k l):a36 l=some (G8 l):=by
 unfold a36 G8;rw [show (40:Int)=((40:Nat):Int) from rfl,b7k,K6 l (h.fits (by decide)) S9 false ()]
 ·cases decide (l.length<=40)
  ·rfl
  ·cases l.all S9<;>rfl
 ·intro k hk;unfold b3g;rw [x7 _ k hk,s8 hk];simp only [e0O,d8Y,d2k (h.2 _ (d85 hk))];cases S9 l[k]<;>rfl
 ·unfold b3g;rw [A4];rfl
theorem a7B{l:List n7}(h:z0 96 a0k l):a3C l=some (G8 l):=by
 unfold a3C G8 b59;rw [show (40:Int)=((40:Nat):Int) from rfl,b5p,K6 l (h.fits (by decide)) S9 false ()]
 ·cases l.all S9<;>cases decide (l.length<=40)<;>rfl
 ·intro k hk;unfold b14;rw [x7 _ k hk,s8 hk];simp only [e0O,d8Y,c85 (h.2 _ (d85 hk))];cases S9 l[k]<;>rfl
 ·unfold b14;rw [A4];rfl
def K2(a:v6):Bool:=m9 a.d9 0 3000&&(G8 a.a8&&a.a8.all fun v => !decide (v.a5>a.d9))
theorem d1G{a:v6}(h:a30 a):b2l a=some (K2 a):=by
 unfold b2l K2;rw [rng,b5z h.2,K6 a.a8 (h.2.fits (by decide)) (fun v => !decide (v.a5>a.d9)) false ()]
 ·simp only [d8Y];cases m9 a.d9 0 3000<;>cases G8 a.a8<;>cases a.a8.all (fun v => !decide (v.a5>a.d9))<;>rfl
 ·intro k hk;unfold b3i;rw [x7 _ k hk,s8 hk];simp only [e0O,d8Y];cases decide (a.a8[k].a5>a.d9)<;>rfl
 ·unfold b3i;rw [A4];rfl
theorem b7T{a:v6}(h:a30 a):a6F a=some (K2 a):=by
 unfold a6F K2;rw [K6 a.a8 (h.2.fits (by decide)) (fun v => !decide (v.a5>a.d9)) false ()]
 ·unfold b6k;simp only [G2,a7B h.2,d8Y];cases m9 a.d9 0 3000<;>cases G8 a.a8<;>cases a.a8.all (fun v => !decide (v.a5>a.d9))<;>rfl
 ·intro k hk;unfold b16;rw [x7 _ k hk,s8 hk];simp only [e0O,d8Y];cases decide (a.a8[k].a5>a.d9)<;>rfl
 ·unfold b16;rw [A4];rfl
theorem d7U(i:m5):b3K i=some (K1 i):=by
 unfold b3K K1 a1t b3O;simp only [G2,d8Y];cases i.a0==1<;>cases i.a0==2<;>cases i.a0==3<;>cases i.a0==4<;>cases i.a0==5<;>cases i.a0==6<;>cases i.a0==7<;>cases m9 i.A 0 3<;>cases m9 i.B 0 3<;>cases i.A==0<;>cases i.B==0<;>rfl
theorem b2B{l:List m5}(h:s6 l):a4r l=some (z9 l):=by
 unfold a4r z9 b6n;rw [show (10:Int)=((10:Nat):Int) from rfl,b5p,K6 l h K1 false ()]
 ·cases l.all K1<;>cases decide (l.length<=10)<;>rfl
 ·intro k hk;unfold b2G;rw [x7 _ k hk,s8 hk];simp only [e0O,d8Y,d7U];cases K1 l[k]<;>rfl
 ·unfold b2G;rw [A4];rfl
def R6(b:Int):Int:=bif m9 b 1 3000 then d9x b 3 else -1
theorem c7N(b:Int):a7m b=some (R6 b):=by
 unfold a7m R6;rw [b0Z,d8Y];cases m9 b 1 3000<;>rfl
theorem b8y(b:Int):a8l b=some (R6 b):=by
 unfold a8l R6;rw [G2,d8Y];cases m9 b 1 3000<;>rfl
def b2D(l:List Bool)(id:Int):Bool:=(idx l id).getD false
def a2k(l:List Bool)(id:Int):Bool:=((l.length:Int)==3)&&b2D l id
theorem c1c{l:List Bool}{id:Int}(h:m9 id 0 2=true)(hl:((l.length:Int)==3)=true):idx l id=some (b2D l id):=by
 unfold m9 at h;simp only [decide_eq_true_eq] at h;simp only [beq_iff_eq] at hl;unfold b2D idx;rw [if_pos h.1,d8Z (by omega)];rfl
theorem d0V{l:List Bool}{id:Int}(h:m9 id 0 2=true)(x:Bool):(bif ((l.length:Int)==3) then (idx l id).bind fun y=>some (y&&x) else some false)=some (a2k l id&&x):=by
 unfold a2k;cases hl:((l.length:Int)==3)
 ·rfl
 ·rw [c1c h hl];rfl
theorem d8C{l:List Bool}{id:Int}(h:m9 id 0 2=true):a81 l id=some (a2k l id):=by
 unfold a81 a2k;cases hl:((l.length:Int)==3)
 ·rfl
 ·rw [c1c h hl];rfl
def a1F(n:j6):Bool:=Q2 n.c9 zE&&((n.a8.length:Int)==0)
def a0f(n:j6):Bool:=
  bif n.a9==0 then (n.a5==0)&&(((n.b7.length:Int)==0)&&(((n.f0.length:Int)==0)&&a1F n)) else
  (R6 n.a5==n.Id)&&(decide (n.a5<=n.Acc.d9)&&(G8 n.f0 &&
    (bif n.a9==1 then a2k n.b7 n.Id&&a1F n else
     bif n.a9==2 then ((n.b7.length:Int)==0)&&a1F n else
     bif n.a9==3 then ((n.b7.length:Int)==0)&&(s9 n.c9&&(a2k n.a8 n.Id&&decide ((n.a6.length:Int)<40))) else false)))
theorem c2E{n:j6}(h:m9 n.Id 0 2=true)(ho:(R6 n.a5==n.Id)=true):m9 n.a5 1 3000=true:=by
 cases hb:m9 n.a5 1 3000
 ·unfold R6 at ho;rw [hb] at ho;unfold m9 at h;simp only [decide_eq_true_eq,e0P,beq_iff_eq] at h ho;omega
 ·rfl
theorem d2U{n:j6}(h:a10 n)(hId:m9 n.Id 0 2=true):a9H n=some (a0f n):=by
 have hj:a9H n=b3G n (a1F n):=by
  unfold a9H a1F;simp only [b3R h.2.2.2.2.2.2.2.2.1,d8Y];cases Q2 n.c9 zE<;>rfl
 rw [hj];unfold b3G a0f;simp only [b8y,a7B h.2.2.2.2.2.2.2.1,d8C hId,a3m h.2.2.2.2.2.2.2.2.1.f,d8Y,a1I];cases n.a9==0
 ·simp only [e0P];cases n.a9==1<;>cases n.a9==2<;>cases n.a9==3<;>simp only [e0O,e0P,a8b,a88,a25,Bool.not_not]<;>(cases R6 n.a5==n.Id<;>cases decide (n.a5<=n.Acc.d9)<;>cases G8 n.f0<;>rfl)
 ·rfl
theorem d8v{n:j6}(h:a10 n)(hId:m9 n.Id 0 2=true):b2z n=some (a0f n):=by
 unfold b2z a0f;simp only [c7N,b0Z,b45 h.2.2.2.2.2.2.2.2.1,b5z h.2.2.2.2.2.2.2.1,a5e h.2.2.2.2.2.2.2.2.1.f,d8Y,a1I,a8b,d0V hId,a88,a25,Bool.not_not];have hb:=c2E (n:=n) hId;cases h0:n.a9==0
 ·cases h1:n.a9==1
  ·cases h2:n.a9==2
   ·cases h3:n.a9==3
    ·simp only [e0P,Bool.and_false]
    ·simp only [e0P,e0O,a8b,a88,a25,Bool.not_not];cases ho:R6 n.a5==n.Id
     ·simp
     ·rw [hb ho];cases decide (n.a5<=n.Acc.d9)<;>cases G8 n.f0<;>cases ((n.b7.length:Int)==0)<;>rfl
   ·simp only [e0P,e0O,a8b,a88,a25,Bool.not_not];cases ho:R6 n.a5==n.Id
    ·simp
    ·rw [hb ho];unfold a1F;cases decide (n.a5<=n.Acc.d9)<;>cases G8 n.f0<;>cases ((n.b7.length:Int)==0)<;>rfl
  ·simp only [e0P,e0O,a8b,a88,a25,Bool.not_not];cases ho:R6 n.a5==n.Id
   ·simp
   ·rw [hb ho];unfold a1F;cases decide (n.a5<=n.Acc.d9)<;>cases G8 n.f0<;>cases a2k n.b7 n.Id<;>rfl
 ·unfold a1F;simp only [e0O]
def a2X(n:j6):Bool:=
 bif n.i4 then z9 n.i6&&(s9 n.b8&&(!n.b8.i7&&(([n.b8.a7.b9,n.b8.a7.Seq]:List Int)==[n.Id,n.Seq]))) else ((n.i6.length:Int)==0)&&Q2 n.b8 zE
theorem c9j{n:j6}(h:a10 n):b2O n=some (a2X n):=by
 unfold b2O a2X;have hw:=h.2.2.2.2.2.2.2.2.2.2.2.1;simp only [b45 hw,b3b (h.2.2.2.2.2.2.2.2.2.2.1.fits (by decide)),a5e hw.f,d8Y,a1I];cases n.i4<;>rfl
def a90(l:List l7):Bool:=l.all fun e=>s9 e && !e.i7
def D6(n:j6):Bool:=m9 n.Id 0 2&&(K2 n.Acc&&(G6 n.a6&&(m9 n.Seq 0 1000&&(decide ((n.d8.length:Int)<=4)&&(a0f n&&(a2X n&&a90 n.d8))))))
theorem d46{n:j6}(h:a10 n):b0H n=some (D6 n):=by
 unfold b0H D6;rw [b7l];cases hId:m9 n.Id 0 2
 ·rfl
 ·rw [rng,d1G h.2.1,c9S (okEntries.s h.2.2.1),d8v h hId,c9j h,K6 n.d8 (h.2.2.2.2.2.2.2.2.2.2.2.2.fits (by decide)) (fun e=>s9 e && !e.i7) false ()]
  ·unfold a90 b34;rw [<-a25];simp only [d8Y,e0O];cases K2 n.Acc<;>cases G6 n.a6<;>cases m9 n.Seq 0 1000<;>cases decide ((n.d8.length:Int)>4)<;>cases a0f n<;>cases a2X n<;>cases n.d8.all (fun e=>s9 e && !e.i7)<;>rfl
  ·intro k hk;unfold b3k;rw [x7 _ k hk,s8 hk];simp only [e0O,d8Y,a5e ((h.2.2.2.2.2.2.2.2.2.2.2.2).2 _ (d85 hk)).f];cases s9 n.d8[k]<;>cases n.d8[k].i7<;>rfl
  ·unfold b3k;rw [A4];rfl
theorem a45{n:j6}(h:a10 n):a1H n=some (D6 n):=by
 unfold a1H D6;rw [G2,d8Y];cases hId:m9 n.Id 0 2
 ·rfl
 ·have hw:=h.2.2.2.2.2.2.2.2.2.2.2.1;have hk3:b3V n=some (a2X n&&a0f n):=by
   unfold b3V b61 a2X;simp only [b2B (h.2.2.2.2.2.2.2.2.2.2.1.fits (by decide)),a3m hw.f,b3R hw,d2U h hId,d8Y];cases n.i4
   ·rw [c4N];cases ((n.i6.length:Int)==0)<;>cases Q2 n.b8 zE<;>rfl
   ·cases z9 n.i6<;>cases s9 n.b8<;>cases n.b8.i7<;>cases (([n.b8.a7.b9,n.b8.a7.Seq]:List Int)==[n.Id,n.Seq])<;>rfl
  rw [b7T h.2.1,c0z (okEntries.s h.2.2.1),G2,hk3,K6 n.d8 (h.2.2.2.2.2.2.2.2.2.2.2.2.fits (by decide)) (fun e=>s9 e && !e.i7) false ()]
  ·unfold a90;rw [<-a25];simp only [d8Y,d9e,e0P];cases K2 n.Acc<;>cases G6 n.a6<;>cases m9 n.Seq 0 1000<;>cases decide ((n.d8.length:Int)>4)<;>cases a0f n<;>cases a2X n<;>cases n.d8.all (fun e=>s9 e && !e.i7)<;>rfl
  ·intro k hk;unfold b3L;rw [x7 _ k hk,s8 hk];simp only [e0O,d8Y,a3m ((h.2.2.2.2.2.2.2.2.2.2.2.2).2 _ (d85 hk)).f];cases s9 n.d8[k]<;>cases n.d8[k].i7<;>rfl
  ·unfold b3L;rw [A4];rfl
def a35(m:l8):Bool:=
 let bal:=m9 m.a5 1 3000;let non:=Q2 m.d7 zE;let nv:=(m.a8.length:Int)==0;bif m.a0==1 then bal&&(non&&nv) else
 bif m.a0==4 then bal&&(non&&nv) else
 bif m.a0==2 then bal&&(non&&(G8 m.a8&&decide (l9 (m.c8+(m.a8.length:Int))<=40))) else
 bif m.a0==3 then bal&&(decide (m.c8<40)&&(s9 m.d7&&nv)) else
 bif m.a0==5 then (m.a5==0)&&(decide (m.c8<40)&&(s9 m.d7&&nv)) else
 bif m.a0==6 then bal&&((m.c8==0)&&(non&&nv)) else
 bif m.a0==7 then (m.a5==0)&&((m.c8==0)&&(s9 m.d7&&(!m.d7.i7&&nv))) else
 bif m.a0==8 then (m.a5==0)&&(non&&nv) else false
def J7(m:l8):Bool:=m9 m.b7 0 2&&(m9 m.To 0 2&&(!(m.b7==m.To)&&(m9 m.c8 0 40&&a35 m)))
theorem c0o{m:l8}(h:a4I m):a7p m=some (J7 m):=by
 unfold a7p J7 a35;have he:=h.2.2.2.2.2.1;simp only [G2,b3R he,a3m he.f,a7B h.2.2.2.2.2.2,d8Y,a1I];cases m9 m.b7 0 2
 ·rfl
 cases m9 m.To 0 2
 ·rfl
 cases m.b7==m.To;case true=>rfl
 cases m9 m.c8 0 40
 ·rfl
 cases m.a0==1<;>cases m.a0==4<;>cases m.a0==2<;>cases m.a0==3<;>cases m.a0==5<;>cases m.a0==6<;>cases m.a0==7<;>cases m.a0==8<;>rfl
theorem c9P{m:l8}(h:a4I m):b3e m=some (J7 m):=by
 unfold b3e J7;have he:=h.2.2.2.2.2.1;have hj2:b0u m=a9z m (Q2 m.d7 zE) (s9 m.d7&&decide (m.c8<40)):=by
  unfold b0u;simp only [b45 he,a5e he.f,d8Y];cases s9 m.d7<;>rfl
 have hj:∀nv:Bool,nv=((m.a8.length:Int)==0)->(m.a0==2||nv)=true->a9z m (Q2 m.d7 zE) (s9 m.d7&&decide (m.c8<40))=some (a35 m):=by
  intro nv hnv hk;unfold a9z a35;simp only [b0Z,b5z h.2.2.2.2.2.2,a5e he.f,d8Y,a1I];rw [<-hnv];cases h1:m.a0==1;case true=>
   have:(m.a0==2)=false:=by
    simp only [beq_iff_eq] at h1;rw [h1];rfl
   rw [this,d95] at hk;simp only [e0O,hk,e0a]
  cases h2:m.a0==2;case true=>
   cases h4:m.a0==4
   ·rfl
   ·simp only [beq_iff_eq] at h2 h4;omega
  rw [h2,d95] at hk;subst hk;cases h3:m.a0==3;case true=>
   cases h4:m.a0==4
   ·simp only [e0O,e0P,e0a];cases m9 m.a5 1 3000<;>cases s9 m.d7<;>cases decide (m.c8<40)<;>rfl
   ·simp only [beq_iff_eq] at h3 h4;omega
  cases h4:m.a0==4;case true=>simp only [e0O,e0P,e0a]
  simp only [e0P];cases m.a0==5;case true=>
   simp only [e0O,e0a];cases m.a5==0<;>cases s9 m.d7<;>cases decide (m.c8<40)<;>rfl
  simp only [e0P];cases m.a0==6;case true=>
   simp only [e0O,e0a];cases m9 m.a5 1 3000<;>cases Q2 m.d7 zE<;>cases m.c8==0<;>rfl
  cases m.a0==7<;>cases m.a0==8<;>simp only [e0O,e0P,e0a,d9m,Bool.false_and]
 rw [hj2,b7l];cases m9 m.b7 0 2
 ·rfl
 simp only [e0O,d9m];rw [b7l];cases m9 m.To 0 2
 ·rfl
 simp only [e0O,d9m];cases m.b7==m.To;case true=>rfl
 simp only [e0P,d9u,d9m];rw [rng];cases m9 m.c8 0 40
 ·rfl
 simp only [e0O,d9m];rw [c4N];cases h2:m.a0==2
 ·rw [show (m.a0 != 2)=true from by rw [bne,h2];rfl];cases hv:((m.a8.length:Int)==0)
  ·show some false=_
   have:a35 m=false:=by
    unfold a35;rw [h2,hv];simp
   rw [this]
  ·exact hj true hv.symm (by simp)
 ·rw [show (m.a0 != 2)=false from by rw [bne,h2];rfl];exact hj _ rfl (by rw [h2];rfl)
def N1(t:r9):Bool:=m9 t.Node 0 2&&((m9 t.a7.b9 0 2&&m9 t.a7.Seq 1 1000)&&((t.a7.b9==t.Node)&&(m9 t.Code 0 4&&m9 t.c7 (-1000000) 1000000)))
theorem d5U(t:r9):b08 t=some (N1 t):=by
 unfold b08 N1;simp only [b5W,b2t,d8Y,a1I];have e1:m9 t.Node 0 2=(decide (t.Node>=0)&&decide (t.Node<3)):=by
  unfold m9;by_cases h1:t.Node>=0<;>by_cases h2:t.Node<3<;>simp [h1,h2]<;>omega
 have e2:m9 t.Code 0 4=(decide (t.Code>=0)&&decide (t.Code<=4)):=by
  unfold m9;by_cases h1:t.Code>=0<;>by_cases h2:t.Code<=4<;>simp [h1,h2]<;>omega
 rw [e1,e2];simp only [e0N]
def T2(x:D4):Bool:=(m9 x.a7.b9 0 2&&m9 x.a7.Seq 1 1000)&&z9 x.i6
def a1X(w:j8)(k:Nat):Bool:=match w.c6[k]? with
 | some n=>(n.Id==(k:Int))&&D6 n
 | none=>true
def N8(w:j8):Bool:=((w.c6.length:Int)==3)&&(decide ((w.g8.length:Int)<=40)&&(decide ((w.g9.length:Int)<=60)&&(decide ((w.Told.length:Int)<=60)&&((d87 w.c6.length).all (a1X w)&&(w.g8.all J7&&(w.g9.all T2&&w.Told.all N1))))))
theorem d7j{w:j8}(h:a9S w):b15 w=some (N8 w):=by
 have k7:b3p w=some (w.Told.all N1):=by
  unfold b3p;rw [K6 w.Told (h.2.2.2.fits (by decide)) N1 false ()]
  ·cases w.Told.all N1<;>rfl
  ·intro k hk;unfold b0x;rw [x7 _ k hk,s8 hk];simp only [e0O,d8Y,d5U];cases N1 w.Told[k]<;>rfl
  ·unfold b0x;rw [A4];rfl
 have k9:b3C w=some (w.g9.all T2&&w.Told.all N1):=by
  unfold b3C;rw [K6 w.g9 (h.2.2.1.fits (by decide)) T2 false ()]
  ·rw [k7];cases w.g9.all T2<;>rfl
  ·intro k hk;unfold b1B;rw [x7 _ k hk,s8 hk];simp only [e0O,d8Y,b5W,b3b ((h.2.2.1.2 _ (d85 hk)).2.fits (by decide))];unfold T2;cases m9 w.g9[k].a7.b9 0 2&&m9 w.g9[k].a7.Seq 1 1000<;>cases z9 w.g9[k].i6<;>rfl
  ·unfold b1B;rw [A4];rfl
 have k11:b1R w=some (w.g8.all J7&&(w.g9.all T2&&w.Told.all N1)):=by
  unfold b1R;rw [K6 w.g8 (h.2.1.fits (by decide)) J7 false ()]
  ·rw [k9];cases w.g8.all J7<;>rfl
  ·intro k hk;unfold b2q;rw [x7 _ k hk,s8 hk];simp only [e0O,d8Y,c9P (h.2.1.2 _ (d85 hk))];cases J7 w.g8[k]<;>rfl
  ·unfold b2q;rw [A4];rfl
 unfold b15 N8;rw [a2I w.c6 (h.1.fits (by decide)) (a1X w) false ()]
 ·rw [k11];simp only [<-a25];rw [show ((w.c6.length:Int)==3) = !((w.c6.length:Int) != 3) from by simp [bne]];cases ((w.c6.length:Int) != 3)<;>cases decide ((w.g8.length:Int)>40)<;>cases decide ((w.g9.length:Int)>60)<;>cases decide ((w.Told.length:Int)>60)<;>cases (d87 w.c6.length).all (a1X w)<;>rfl
 ·intro k hk _;unfold b0T;rw [x7 _ k hk,s8 hk];simp only [e0O,d8Y,d46 (h.1.2 _ (d85 hk)),a1X,d8Z hk,bne];cases w.c6[k].Id==(k:Int)<;>cases D6 w.c6[k]<;>rfl
 ·unfold b0T;rw [A4];rfl
theorem a8y{w:j8}(h:a9S w):a5T w=some (N8 w):=by
 have k7:b24 w=some (w.Told.all N1):=by
  unfold b24;rw [K6 w.Told (h.2.2.2.fits (by decide)) N1 false ()]
  ·cases w.Told.all N1<;>rfl
  ·intro k hk;unfold b3u;rw [x7 _ k hk,s8 hk];simp only [e0O,d8Y,G2,b01];unfold N1;rw [show (w.Told[k].a7.b9==w.Told[k].Node) = !(w.Told[k].a7.b9 != w.Told[k].Node) from by simp [bne]];cases m9 w.Told[k].Node 0 2<;>cases m9 w.Told[k].a7.b9 0 2&&m9 w.Told[k].a7.Seq 1 1000<;>cases (w.Told[k].a7.b9 != w.Told[k].Node)<;>cases m9 w.Told[k].Code 0 4<;>cases m9 w.Told[k].c7 (-1000000) 1000000<;>rfl
  ·unfold b3u;rw [A4];rfl
 have k9:b3y w=some (w.g9.all T2&&w.Told.all N1):=by
  unfold b3y;rw [K6 w.g9 (h.2.2.1.fits (by decide)) T2 false ()]
  ·rw [k7];cases w.g9.all T2<;>rfl
  ·intro k hk;unfold b2U;rw [x7 _ k hk,s8 hk];simp only [e0O,d8Y,b01,b2B ((h.2.2.1.2 _ (d85 hk)).2.fits (by decide))];unfold T2;cases m9 w.g9[k].a7.b9 0 2&&m9 w.g9[k].a7.Seq 1 1000<;>cases z9 w.g9[k].i6<;>rfl
  ·unfold b2U;rw [A4];rfl
 have k11:b0e w=some (w.g8.all J7&&(w.g9.all T2&&w.Told.all N1)):=by
  unfold b0e;rw [K6 w.g8 (h.2.1.fits (by decide)) J7 false ()]
  ·rw [k9];cases w.g8.all J7<;>rfl
  ·intro k hk;unfold a94;rw [x7 _ k hk,s8 hk];simp only [e0O,d8Y,c0o (h.2.1.2 _ (d85 hk))];cases J7 w.g8[k]<;>rfl
  ·unfold a94;rw [A4];rfl
 unfold a5T N8;rw [a2I w.c6 (h.1.fits (by decide)) (a1X w) false ()]
 ·rw [k11];simp only [<-a25];rw [show ((w.c6.length:Int)==3) = !((w.c6.length:Int) != 3) from by simp [bne]];cases ((w.c6.length:Int) != 3)<;>cases decide ((w.g8.length:Int)>40)<;>cases decide ((w.g9.length:Int)>60)<;>cases decide ((w.Told.length:Int)>60)<;>cases (d87 w.c6.length).all (a1X w)<;>rfl
 ·intro k hk _;unfold b1S;rw [x7 _ k hk,s8 hk];simp only [e0O,d8Y,a45 (h.1.2 _ (d85 hk)),a1X,d8Z hk,bne];cases w.c6[k].Id==(k:Int)<;>cases D6 w.c6[k]<;>rfl
 ·unfold b1S;rw [A4];rfl
theorem b8h{α:Type}{p:List α->List α->Nat->Bool}(hp:∀(a b:List α) (k:Nat) (x y:α),a[k]?=some x->b[k]?=some y->(p a b k=true↔x=y))(a b:List α):(a.length==b.length&&(d87 a.length).all (p a b))=true↔a=b:=by
 constructor
 ·intro h;simp only [d82,beq_iff_eq,d86,d9Z] at h;refine List.ext_getElem h.1 fun i h1 h2 => ?_
  exact (hp a b i _ _ (d8Z h1) (d8Z h2)).1 (h.2 i h1)
 ·rintro rfl
  simp only [d82,beq_iff_eq,d86,d9Z,true_and];intro k hk;exact (hp a a k _ _ (d8Z hk) (d8Z hk)).2 rfl
theorem c0e(a b:m8):a2i a b=true↔a=b:=by
 have h1:=b8h (p:=a0F) (fun a b k x y hx hy=>by
  unfold a0F;rw [hx,hy];cases x;cases y;simp) a.b5 b.b5
 have h2:=b8h (p:=a0D) (fun a b k x y hx hy=>by
  unfold a0D;rw [hx,hy];cases x;cases y;simp) a.b6 b.b6
 unfold a2i;rw [d82,h1,d82,h2,d82,beq_iff_eq,beq_iff_eq];cases a;cases b;simp
theorem a20(a b:l7):Q2 a b=true↔a=b:=by
 unfold Q2;rw [d82,d82,c0e];obtain ⟨n,⟨q1,q2⟩,r⟩:=a;obtain ⟨n',⟨q1',q2'⟩,r'⟩:=b;simp [and_assoc]
theorem C7{n lo hi:Int}:m9 n lo hi=true↔lo<=n/\n<=hi:=by unfold m9;simp
theorem d7h{w:j8}(h:N8 w=true):w.c6.length=3/\∀n∈w.c6,D6 n=true:=by
 unfold N8 at h;simp only [d82,beq_iff_eq,d86,d9Z] at h;refine ⟨by omega,fun n hn => ?_⟩;obtain ⟨i,hi,rfl⟩:=d9W hn;have:=h.2.2.2.2.1 i hi;unfold a1X at this;rw [d8Z hi] at this;simp only [d82] at this;exact this.2
theorem c7D{w:j8}(h:a9S w):∃v,a7d w=some v/\a1k w=some v:=by
 have e:a7d w=a1k w:=by
  unfold a7d a1k;rw [d7j h,a8y h];rfl
 rw [e];have:∃v,a1k w=some v:=by
  unfold a1k;rw [a8y h,d8Y];cases hw:N8 w
  ·exact ⟨_,rfl⟩
  ·cases decide ((w.g8.length:Int)>0)
   ·simp only [d9e,e0P];have h3:=(d7h hw).1;have h0:0<w.c6.length:=by omega
    rw [K6 w.c6 (h.1.fits (by decide)) (fun n => !n.i4 && !((n.a6.length:Int) != (w.c6[0].a6.length:Int))) false ()]
    ·cases w.c6.all (fun n => !n.i4 && !((n.a6.length:Int) != (w.c6[0].a6.length:Int)))<;>exact ⟨_,rfl⟩
    ·intro k hk;unfold a6I;rw [x7 _ k hk,s8 hk,show idx w.c6 0=some w.c6[0] from s8 h0];simp only [e0O,d8Y];cases w.c6[k].i4<;>cases ((w.c6[k].a6.length:Int) != (w.c6[0].a6.length:Int))<;>rfl
    ·unfold a6I;rw [A4];rfl
   ·exact ⟨_,rfl⟩
 obtain ⟨v,hv⟩:=this;exact ⟨v,hv,hv⟩
theorem c6Q{l:List p7}(h:z0 16 c45 l):a0Z l=some l:=by
 have hb:=h.1;unfold a0Z;cases hl:((l.length:Int)==0)
 ·rw [e0P,x6 (by constructor<;>omega),x6 (by simp)]
 ·simp only [beq_iff_eq] at hl;have:l=[]:=d9c (by omega);rw [this];rfl
theorem d0S{l:List o7}(h:z0 16 b7S l):a5L l=some l:=by
 have hb:=h.1;unfold a5L;cases hl:((l.length:Int)==0)
 ·rw [e0P,x6 (by constructor<;>omega),x6 (by simp)]
 ·simp only [beq_iff_eq] at hl;have:l=[]:=d9c (by omega);rw [this];rfl
theorem a9y{e:l7}(h:I7 e):a3U e=some e:=by
 unfold a3U b5L;rw [c6Q h.2.1,d8Y,d0S h.2.2.1];rfl
theorem d6D{l:List l7}(h:z0 88 I7 l):b00 l=some l:=by
 have hb:=h.1;unfold b00;cases hl:((l.length:Int)==0)
 ·rw [e0P,x6 (by constructor<;>omega),x6 (by simp)]
 ·simp only [beq_iff_eq] at hl;have:l=[]:=d9c (by omega);rw [this];rfl
theorem c2i{l:List l7}(h:z0 88 I7 l):a8a l=some l:=by
 have hf:s6 l:=h.fits (by decide);unfold a8a;rw [d6D h,d8Y];have hl:=a1u (body:=fun s:(List l7)×Int=>a9A l s.1 s.2) (fun k=>(l,(k:Int))) l.length (by
  intro k hk;unfold a9A;rw [x7 _ k hk,s8 hk];simp only [e0O,d8Y,a9y (h.2 _ (d85 hk)),J2 hf hk,d9q,e0E])
 rw [show ((0:Nat):Int)=0 from rfl] at hl;rw [hl,E9 (b:=l)]
 ·rfl
 ·unfold a9A;rw [A4];rfl
def best(w:j8):Nat->Nat
 | 0=>0
 | k+1=>match w.c6[k]?,w.c6[best w k]? with
  | some a,some b=>bif decide ((a.a6.length:Int)>(b.a6.length:Int)) then k else best w k
  | _,_=>best w k
def E8(q:p9)(e:l7):Bool := !e.i7&&(([e.a7.b9,e.a7.Seq]:List Int)==[q.b9,q.Seq])
theorem c5T{α R S B:Type}{body:S->Option (j7 R S B)}(st:Nat->S)(l:List α)(is:α->Bool)(r:Nat->R)(b:B)(h1:∀(k:Nat) (h:k<l.length),body (st k)=some (bif is l[k] then .ret (r k) else .nxt (st (k+1))))(h2:body (st l.length)=some (.brk b)) :
  p6 body (st 0)=some (match l.findIdx? is with|some k=>.ret (r k)|none=>.brk b):=by
 rcases a5t (body:=body) st l.length (fun k=>match l[k]? with|some x => !is x|none=>true) r b
  (fun k hk _=>by
   rw [h1 k hk,d8Z hk];simp only;cases is l[k]<;>rfl) (fun _=>h2) with ⟨h,hall⟩|⟨k,hk,ho,hb,h⟩
 ·have:l.findIdx? is=none:=by
   rw [e0L];intro x hx;obtain ⟨i,hi,rfl⟩:=d9W hx;have:=hall i hi;rw [d8Z hi] at this;simpa using this
  rw [this];exact h
 ·have:l.findIdx? is=some k:=by
   rw [d98];refine ⟨hk,?_,fun j hj => ?_⟩
   ·rw [d8Z hk] at ho;simpa using ho
   ·have:=hb j hj;rw [d8Z (show j<l.length by omega)] at this;simpa using this
  rw [this];exact h
theorem b6e{l:List l7}(h:s6 l)(q:p9):a67 l q=some (match l.findIdx? (E8 q) with|some k=>(k:Int)|none => -1):=by
  unfold a67;rw [show p6 (fun s:Int=>a7c l q s) 0=_ from c5T (body:=fun s:Int=>a7c l q s) (fun k=>(k:Int)) l (E8 q) (fun k=>(k:Int)) () (by
      intro k hk;unfold a7c b7g E8;rw [x7 _ k hk,s8 hk,<-J2 h hk];simp only [e0O,d8Y];cases l[k].i7<;>cases (([l[k].a7.b9,l[k].a7.Seq]:List Int)==[q.b9,q.Seq])<;>rfl) (by
      unfold a7c;rw [A4];rfl)]
  cases l.findIdx? (E8 q)<;>rfl
theorem c6J{l:List l7}(hl:l.length<=40)(he:l.all s9=true){k:Nat}(hk:k<l.length):(u5 l).2[k]?=some (apply (u5 (l.take k)).1 l[k]).2:=by
 have key:∀m,k<m->m<=l.length->(u5 (l.take m)).2[k]?=some (apply (u5 (l.take k)).1 l[k]).2:=by
  intro m;induction m with
  | zero=>omega
  | succ m ih=>
   intro h1 h2;have hlen:=(a21 hl he m (by omega)).2.1;rw [a5x (show m<l.length by omega)];unfold a8z;simp only;by_cases q:k<m
   ·rw [d9i (by omega)];exact ih q (by omega)
   ·have:k=m:=by omega
    subst this;rw [d9f (by omega),hlen];simp
 have:=key l.length hk (d9B _);rwa [d9L] at this
def P7(l:List l7)(k:Nat):Int:=(u5 l).2[k]?.getD 0
theorem b6d{α B R:Type}{body:Int->Option (j7 R Int B)}(l:List α)(hl:s6 l)(ok:α->Bool)(v:R)(b:B)(h1:∀(k:Nat) (h:k<l.length),body (k:Int)=some (bif ok l[k] then .nxt (l9 ((k:Int)+1)) else .ret v))(h2:body (l.length:Int)=some (.brk b)):p6 body 0=some (bif l.all ok then .brk b else .ret v):=by
 have h:=a5t (body:=body) (fun k=>(k:Int)) l.length (fun k=>match l[k]? with|some x=>ok x|none=>true) (fun _=>v) b
  (fun k hk _=>by
   have:=h1 k hk;rw [J2 hl hk] at this;simpa [d8Z hk] using this) (fun _=>h2)
 rcases h with ⟨h,hall⟩|⟨k,hk,ho,_,h⟩
 ·have:l.all ok=true:=by
   rw [d86];intro x hx;obtain ⟨i,hi,rfl⟩:=d9W hx;have:=hall i hi;simpa [d8Z hi] using this
  rw [this];exact h
 ·have:l.all ok=false:=by
   rw [List.all_eq_false];refine ⟨l[k],d85 hk,?_⟩;simpa [d8Z hk] using ho
  rw [this];exact h
theorem a8f{l:List p7}(h:l.length<=1000):a0Z l=some l:=by
 unfold a0Z;cases hl:((l.length:Int)==0)
 ·rw [e0P,x6 (by constructor<;>omega),x6 (by simp)]
 ·simp only [beq_iff_eq] at hl;have:l=[]:=d9c (by omega);rw [this];rfl
theorem c95{l:List o7}(h:l.length<=1000):a5L l=some l:=by
 unfold a5L;cases hl:((l.length:Int)==0)
 ·rw [e0P,x6 (by constructor<;>omega),x6 (by simp)]
 ·simp only [beq_iff_eq] at hl;have:l=[]:=d9c (by omega);rw [this];rfl
def W8(ps:List o7)(b:Int):Option Nat:=ps.findIdx? (·.g7==b)
def atI:Option Nat->Int
 | some k=>(k:Int)
 | none => -1
theorem c2a{x:m8}(h:s6 x.b6)(b:Int):a8h x b=some (atI (W8 x.b6 b)):=by
 unfold a8h;rw [show (0:Int)=((0:Nat):Int) from rfl,c5T (body:=fun s:Int=>a8Q x b s) (fun k=>(k:Int)) x.b6 (·.g7==b) (fun k=>(k:Int)) ()]
 ·unfold W8;cases x.b6.findIdx? (·.g7==b)<;>rfl
 ·intro k hk;unfold a8Q;rw [x7 _ k hk,s8 hk,J2 h hk];simp only [e0O,d8Y];cases x.b6[k].g7==b<;>rfl
 ·unfold a8Q;rw [A4];rfl
theorem b6o{ps:List o7}{b:Int}{k:Nat}(h:W8 ps b=some k):k<ps.length:=by
 obtain ⟨hk,_⟩:=d98.1 h;exact hk
theorem b8D(k:Nat):decide (atI (some k)>=0)=true:=by simp [atI]
theorem b9y:decide (atI none>=0)=false:=by simp [atI]
theorem d3V{x:m8}(h:s6 x.b5)(b:Int):∃v,a7Y x b=some v/\decide (v<0) = !(H5 x.b5 b):=by
 obtain ⟨v,h1,h2⟩:=d0R h b;refine ⟨v,h1,?_⟩;rw [<-h2];by_cases q:v>=0
 ·have:¬v<0:=by omega
  simp [q,this]
 ·have:v<0:=by omega
  simp [q,this]
def I4(v:Int):Bool:=m9 v (-1000000) 1000000
def K4(regs:List Int)(a:Int):Int:=regs.getD a.toNat 0
theorem W6{regs:List Int}(h:regs.length=4){a:Int}(ha:0<=a/\a<=3):idx regs a=some (K4 regs a):=by
 obtain ⟨k,rfl⟩:=Int.eq_ofNat_of_zero_le ha.1;have hk:k<regs.length:=by omega
 rw [s8 hk];unfold K4;simp [hk]
theorem a4Q{regs:List Int}(h:regs.length=4)(hr:regs.all I4=true){a:Int}(ha:0<=a/\a<=3):-1000000<=K4 regs a/\K4 regs a<=1000000:=by
 have hi:=W6 h ha;have hm:K4 regs a∈regs:=d9a (b2d hi).2.2;have:=d86.1 hr _ hm;simpa [I4,m9] using this
structure EI(regs:List Int)(rs:List p7)(ps:List o7)(k:Nat):Prop where
 len:regs.length=4
 rng:regs.all I4=true
 rl:rs.length<=k
 pl:ps.length<=k
theorem EI.fr{regs:List Int}{rs:List p7}{ps:List o7}{k:Nat}(h:EI regs rs ps k)(hk:k<=100):s6 rs:=by
 have:=h.rl;unfold s6;omega
theorem EI.fp{regs:List Int}{rs:List p7}{ps:List o7}{k:Nat}(h:EI regs rs ps k)(hk:k<=100):s6 ps:=by
 have:=h.pl;unfold s6;omega
def E4(l:List m7)(i:m5)(regs:List Int)(rs:List p7)(ps:List o7):List Int×List p7×List o7:=
 bif i.a0==1 then (match W8 ps i.B with
  | some k=>(match ps[k]? with
   | some p=>(regs.set i.A.toNat p.c7,rs,ps)
   | none=>(regs,rs,ps))
  | none=>match l[i.B.toNat]? with
   | some b=>(regs.set i.A.toNat b.c7,bif H5 rs i.B then rs else rs++[⟨i.B,b.i8⟩],ps)
   | none=>(regs,rs,ps))
 else bif i.a0==2 then (regs,rs,match W8 ps i.A with
  | some k=>(match ps[k]? with
   | some p=>ps.set k ⟨p.g7,K4 regs i.B⟩
   | none=>ps)
  | none=>ps++[⟨i.A,K4 regs i.B⟩])
 else bif i.a0==3 then (regs.set i.A.toNat i.N,rs,ps)
 else bif i.a0==4 then (regs.set i.A.toNat (K4 regs i.A+K4 regs i.B),rs,ps)
 else bif i.a0==5 then (regs.set i.A.toNat (K4 regs i.A-K4 regs i.B),rs,ps)
 else (regs,rs,ps)
def X2(l:List m7)(prog:List m5):Nat->Nat->List Int->List p7->List o7->m8
 | 0,_,regs,rs,ps=>⟨rs,ps,K4 regs 0,0⟩
 | f+1,k,regs,rs,ps=>match prog[k]? with
  | none=>⟨rs,ps,K4 regs 0,0⟩
  | some i=>bif i.a0==6 then X2 l prog f (bif decide (K4 regs i.A<K4 regs i.B) then k+i.N.toNat+1 else k+1) regs rs ps
   else bif i.a0==7 then ⟨rs,[],0,1⟩
   else bif (E4 l i regs rs ps).1.all I4 then X2 l prog f (k+1) (E4 l i regs rs ps).1 (E4 l i regs rs ps).2.1 (E4 l i regs rs ps).2.2
   else ⟨(E4 l i regs rs ps).2.1,[],0,2⟩
def A6(l:List m7)(prog:List m5):m8:=bif C0 l&&z9 prog then X2 l prog (prog.length+1) 0 [0,0,0,0] [] [] else ⟨[],[],0,3⟩
section
variable {l:List m7} {regs:List Int} {rs:List p7} {ps:List o7} {k:Nat} {i:m5}
theorem c2D(h:regs.length=4):(E4 l i regs rs ps).1.length=4:=by
 unfold E4;cases i.a0==1<;>cases i.a0==2<;>cases i.a0==3<;>cases i.a0==4<;>cases i.a0==5<;>simp only [e0O,e0P,d9A,h]
 all_goals
  split
  ·split<;>simp [h]
  ·split<;>simp [h]
theorem c3L(h:rs.length<=k):(E4 l i regs rs ps).2.1.length<=k+1:=by
 unfold E4;cases i.a0==1<;>cases i.a0==2<;>cases i.a0==3<;>cases i.a0==4<;>cases i.a0==5<;>simp only [e0O,e0P]<;>try omega
 all_goals
  split
  ·split<;>(simp only;omega)
  ·split
   ·cases H5 rs i.B<;>simp only [e0O,e0P,d9d,d90]<;>omega
   ·simp only;omega
theorem c5V(h:ps.length<=k):(E4 l i regs rs ps).2.2.length<=k+1:=by
 unfold E4;cases i.a0==1<;>cases i.a0==2<;>cases i.a0==3<;>cases i.a0==4<;>cases i.a0==5<;>simp only [e0O,e0P]<;>try omega
 all_goals (repeat' split)
 all_goals (try simp only [d9A,d9d,d90])
 all_goals omega
theorem EI.next(h:EI regs rs ps k)(ha:(E4 l i regs rs ps).1.all I4=true):EI (E4 l i regs rs ps).1 (E4 l i regs rs ps).2.1 (E4 l i regs rs ps).2.2 (k+1):=
 ⟨c2D h.len,ha,c3L h.rl,c5V h.pl⟩
theorem c4q{x:Int}(h:-1000000<=x/\x<=1000000){y:Int}(h':-1000000<=y/\y<=1000000):l9 (x+y)=x+y/\l9 (x-y)=x-y:=⟨B4 (by omega) (by omega),B4 (by omega) (by omega)⟩
theorem d2F(l:List m7){prog:List m5}{f k:Nat}{regs:List Int}{rs:List p7}{ps:List o7}(h:prog.length<=k):X2 l prog f k regs rs ps=⟨rs,ps,K4 regs 0,0⟩:=by
 cases f with
 | zero=>rfl
 | succ f=>
  unfold X2;rw [d9E h]
theorem c2o{prog:List m5}(hp:z9 prog=true):prog.length<=10/\∀i∈prog,K1 i=true:=by
 unfold z9 at hp;simpa using hp
theorem ei0:EI [0,0,0,0] [] [] 0:=⟨rfl,by decide,by simp,by simp⟩
theorem d5x{regs:List Int}{Reads1:List p7}{ins:m5}{put1:o7}(h:regs.length=4)(hr:Reads1.length<=1000):p6 (fun s:Int=>a8k regs Reads1 ins put1 s) 0=some (bif (regs.set ins.A.toNat put1.c7).all I4 then .brk () else .ret ⟨Reads1,[],0,2⟩):=by
 have hl:(regs.set ins.A.toNat put1.c7).length=4:=by simpa using h
 refine b6d (regs.set ins.A.toNat put1.c7) (by unfold s6;omega) I4 _ () (fun k hk => ?_) ?_
 ·have hk4:(k:Int)<4:=by omega
  unfold a8k;rw [decide_eq_true hk4,s8 hk,e0O,d8Y,x6 hk4,G2,d8Y,a8f hr];unfold I4;cases m9 (regs.set ins.A.toNat put1.c7)[k] (-1000000) 1000000<;>rfl
 ·unfold a8k;rw [hl];rfl
theorem c07{regs:List Int}{Reads1:List p7}{ins:m5}{box:m7}(h:regs.length=4)(hr:Reads1.length<=1000):p6 (fun s:Int=>a7N regs ins Reads1 box s) 0=some (bif (regs.set ins.A.toNat box.c7).all I4 then .brk () else .ret ⟨Reads1,[],0,2⟩):=by
 have hl:(regs.set ins.A.toNat box.c7).length=4:=by simpa using h
 refine b6d (regs.set ins.A.toNat box.c7) (by unfold s6;omega) I4 _ () (fun k hk => ?_) ?_
 ·have hk4:(k:Int)<4:=by omega
  unfold a7N;rw [decide_eq_true hk4,s8 hk,e0O,d8Y,x6 hk4,G2,d8Y,a8f hr];unfold I4;cases m9 (regs.set ins.A.toNat box.c7)[k] (-1000000) 1000000<;>rfl
 ·unfold a7N;rw [hl];rfl
theorem b7B{regs:List Int}{Reads1:List p7}(h:regs.length=4)(hr:Reads1.length<=1000):p6 (fun s:Int=>a9b Reads1 regs s) 0=some (bif regs.all I4 then .brk () else .ret ⟨Reads1,[],0,2⟩):=by
 refine b6d regs (by unfold s6;omega) I4 _ () (fun k hk => ?_) ?_
 ·have hk4:(k:Int)<4:=by omega
  unfold a9b;rw [decide_eq_true hk4,s8 hk,e0O,d8Y,x6 hk4,G2,d8Y,a8f hr];unfold I4;cases m9 regs[k] (-1000000) 1000000<;>rfl
 ·unfold a9b;rw [h];rfl
theorem d1K(hl:C0 l=true)(he:EI regs rs ps k)(hk:k<=100){prog:List m5}(hkl:k<prog.length)(hpl:prog.length<=10)(R:List p7)(P:List o7)(hi:K1 prog[k]=true)(h6:prog[k].a0≠6)(h7:prog[k].a0≠7) :
  a09 l prog regs R P rs ps (k:Int)=some (bif (E4 l prog[k] regs rs ps).1.all I4 then .nxt ((E4 l prog[k] regs rs ps).1,R,P,(E4 l prog[k] regs rs ps).2.1,(E4 l prog[k] regs rs ps).2.2,((k+1:Nat):Int)) else .ret ⟨(E4 l prog[k] regs rs ps).2.1,[],0,2⟩):=by
 have hfr:=he.fr hk;have hfp:=he.fp hk;have hrl:=he.rl;have hpl:=he.pl;have n1:(rs.length+1)*16<=140737488355328:=by omega
 have n2:(ps.length+1)*16<=140737488355328:=by omega
 have hw:l9 ((k:Int)+1)=((k+1:Nat):Int):=by rw [B4 (by omega) (by omega)];rfl
 have fin:∀(regs':List Int) (ps':List o7),regs'.length=4->a6z R P rs regs' ps' (k:Int)=some (bif regs'.all I4 then .nxt (regs',R,P,rs,ps',((k+1:Nat):Int)) else .ret ⟨rs,[],0,2⟩):=by
  intro regs' ps' h;unfold a6z a8x;rw [b7B h (by omega),hw];cases regs'.all I4<;>rfl
 have hset:∀(a:Nat) (v:Int),(regs.set a v).length=4:=fun a v=>by simpa using he.len
 unfold a09 E4;generalize hin:prog[k]=i at hi h6 h7;rw [x7 _ k hkl,s8 hkl,hin,e0O,d8Y];rcases b9H hi with ⟨h,ha,hb⟩|⟨h,ha,hb⟩|⟨h,ha,hn⟩|⟨h,ha,hb⟩|⟨h,ha,hb⟩|⟨h,_⟩|⟨h,_⟩
 ·have na:i.A<4:=by omega
  simp only [h,show ((1:Int)==1)=true from rfl,e0O];rw [c2a (x:=⟨rs,ps,0,0⟩) hfp,d8Y];simp only;cases hp:W8 ps i.B with
  | some j=>
   have hj:=b6o hp;simp only [b8D,e0O,d8Z hj];simp only [atI,s8 hj,d8Y,W6 he.len ha];rw [x6 na,d5x he.len (by omega)];unfold b7C;rw [hw];cases (regs.set i.A.toNat ps[j].c7).all I4<;>rfl
  | none=>
   obtain ⟨b,hb1,hb2,_⟩:=a9R hl hb;obtain ⟨v,hv1,hv2⟩:=d3V (x:=⟨rs,ps,0,0⟩) hfr i.B;simp only [b9y,e0P,hv1,hv2,d8Y,hb1,hb2,x6 n1];cases hs:H5 rs i.B
   ·simp only [d9u,e0O,e0P,d8Y,j9.go];unfold b3q b2J;rw [hb1,d8Y,W6 he.len ha,d8Y,x6 na,c07 he.len (by simp;omega),hw];cases (regs.set i.A.toNat b.c7).all I4<;>rfl
   ·simp only [d9e,e0O,e0P,d8Y,j9.go];unfold b3q b2J;rw [hb1,d8Y,W6 he.len ha,d8Y,x6 na,c07 he.len (by omega),hw];cases (regs.set i.A.toNat b.c7).all I4<;>rfl
 ·have nb:i.B<4:=by omega
  simp only [h,show ((2:Int)==1)=false from rfl,show ((2:Int)==2)=true from rfl,e0O,e0P];rw [c2a (x:=⟨rs,ps,0,0⟩) hfp,d8Y];simp only;cases hp:W8 ps i.A with
  | some j=>
   have hj:=b6o hp;simp only [b8D,e0O,d8Z hj];simp only [atI,s8 hj,d8Y,W6 he.len hb,d9q];rw [x6 nb];simp only [d8Y,j9.go];exact fin _ _ he.len
  | none=>
   simp only [b9y,e0P,d8Y,W6 he.len hb];rw [x6 nb,x6 n2];simp only [d8Y,j9.go];exact fin _ _ he.len
 ·have na:i.A<4:=by omega
  simp only [h,show ((3:Int)==1)=false from rfl,show ((3:Int)==2)=false from rfl,show ((3:Int)==3)=true from rfl,e0O,e0P,W6 he.len ha,d8Y];rw [x6 na];simp only [d8Y,j9.go];exact fin _ _ (hset _ _)
 ·have na:i.A<4:=by omega
  have nb:i.B<4:=by omega
  simp only [h,show ((4:Int)==1)=false from rfl,show ((4:Int)==2)=false from rfl,show ((4:Int)==3)=false from rfl,show ((4:Int)==4)=true from rfl,e0O,e0P,W6 he.len ha,W6 he.len hb,d8Y,(c4q (a4Q he.len he.rng ha) (a4Q he.len he.rng hb)).1,x6 na,x6 nb,j9.go];exact fin _ _ (hset _ _)
 ·have na:i.A<4:=by omega
  have nb:i.B<4:=by omega
  simp only [h,show ((5:Int)==1)=false from rfl,show ((5:Int)==2)=false from rfl,show ((5:Int)==3)=false from rfl,show ((5:Int)==4)=false from rfl,show ((5:Int)==5)=true from rfl,e0O,e0P,W6 he.len ha,W6 he.len hb,d8Y,(c4q (a4Q he.len he.rng ha) (a4Q he.len he.rng hb)).2,x6 na,x6 nb,j9.go];exact fin _ _ (hset _ _)
 ·exact absurd h h6
 ·exact absurd h h7
theorem d6w(hl:C0 l=true){prog:List m5}(hp:z9 prog=true)(R:List p7)(P:List o7):∀(f k:Nat) (regs:List Int) (rs:List p7) (ps:List o7),EI regs rs ps k->prog.length<k+f->k<=prog.length+10->
  ((p6 (fun s:(List Int)×(List p7)×(List o7)×(List p7)×(List o7)×Int=>a09 l prog s.1 s.2.1 s.2.2.1 s.2.2.2.1 s.2.2.2.2.1 s.2.2.2.2.2) (regs,R,P,rs,ps,(k:Int))).bind fun x=>x.go (fun r=>some r) fun s=>a9e s.1 s.2.1 s.2.2.1 s.2.2.2.1 s.2.2.2.2)=some (X2 l prog f k regs rs ps):=by
 obtain ⟨hlen,hins⟩:=c2o hp;have stop:∀(k:Nat) (regs:List Int) (rs:List p7) (ps:List o7),EI regs rs ps k->prog.length<=k->k<=prog.length+10->((p6 (fun s:(List Int)×(List p7)×(List o7)×(List p7)×(List o7)×Int=>a09 l prog s.1 s.2.1 s.2.2.1 s.2.2.2.1 s.2.2.2.2.1 s.2.2.2.2.2) (regs,R,P,rs,ps,(k:Int))).bind fun x=>x.go (fun r=>some r) fun s=>a9e s.1 s.2.1 s.2.2.1 s.2.2.2.1 s.2.2.2.2)=some ⟨rs,ps,K4 regs 0,0⟩:=by
  intro k regs rs ps he h1 h2;have h3:=he.rl;have h4:=he.pl;rw [E9 (b:=(R,P,regs,rs,ps))]
  ·simp only [d8Y,j9.go];unfold a9e;rw [a8f (by omega),d8Y,c95 (by omega),d8Y,W6 he.len (a:=0) (by omega),d8Y,x6 (by decide)]
  ·unfold a09;rw [show decide ((k:Int)<(prog.length:Int))=false from by simp;omega];rfl
 intro f;induction f with
 | zero=>
  intro k regs rs ps he hf hk;exact stop k regs rs ps he (by omega) hk
 | succ f ih=>
  intro k regs rs ps he hf hk;by_cases hlt:k<prog.length
  ·have hi:=hins _ (d85 hlt);unfold X2;rw [d8Z hlt];simp only;by_cases h6:prog[k].a0=6
   ·obtain ⟨ha,hb,hn⟩:(0<=prog[k].A/\prog[k].A<=3)/\(0<=prog[k].B/\prog[k].B<=3)/\1<=prog[k].N/\prog[k].N<=10:=by
     rcases b9H hi with ⟨h,_⟩|⟨h,_⟩|⟨h,_⟩|⟨h,_⟩|⟨h,_⟩|⟨h,x⟩|⟨h,_⟩
     all_goals first|(exact x)|(exfalso;omega)
    have hrl:=he.rl;have hb1:a09 l prog regs R P rs ps (k:Int)=some (.nxt (regs,R,P,rs,ps,((bif decide (K4 regs prog[k].A<K4 regs prog[k].B) then k+prog[k].N.toNat+1 else k+1:Nat):Int))):=by
     have na:prog[k].A<4:=by omega
     have nb:prog[k].B<4:=by omega
     unfold a09;rw [x7 _ k hlt,s8 hlt];simp only [e0O,d8Y,h6,show ((6:Int)==1)=false from rfl,show ((6:Int)==2)=false from rfl,show ((6:Int)==3)=false from rfl,show ((6:Int)==4)=false from rfl,show ((6:Int)==5)=false from rfl,show ((6:Int)==6)=true from rfl,e0P,W6 he.len ha,W6 he.len hb,x6 na,x6 nb];cases decide (K4 regs prog[k].A<K4 regs prog[k].B)
     ·simp only [e0P,d8Y,j9.go];unfold a6z a8x;rw [b7B he.len (by omega),he.rng,B4 (by omega) (by omega)];rfl
     ·simp only [e0O,d8Y,j9.go];unfold a6z a8x;rw [b7B he.len (by omega),he.rng,B4 (n:=(k:Int)+prog[k].N) (by omega) (by omega),B4 (by omega) (by omega),show ((k+prog[k].N.toNat+1:Nat):Int)=(k:Int)+prog[k].N+1 from by omega];rfl
    rw [F8 hb1,h6];simp only [show ((6:Int)==6)=true from rfl,e0O];refine ih _ _ _ _ ⟨he.len,he.rng,?_,?_⟩ ?_ ?_;all_goals
     have h1:=he.rl;have h2:=he.pl;cases decide (K4 regs prog[k].A<K4 regs prog[k].B)<;>simp only [e0O,e0P]<;>omega
   by_cases h7:prog[k].a0=7
   ·have hrl:=he.rl;have hb1:a09 l prog regs R P rs ps (k:Int)=some (.ret ⟨rs,[],0,1⟩):=by
     unfold a09;rw [x7 _ k hlt,s8 hlt];simp only [e0O,d8Y,h7,show ((7:Int)==1)=false from rfl,show ((7:Int)==2)=false from rfl,show ((7:Int)==3)=false from rfl,show ((7:Int)==4)=false from rfl,show ((7:Int)==5)=false from rfl,show ((7:Int)==6)=false from rfl,show ((7:Int)==7)=true from rfl,e0P];rw [a8f (by omega)];rfl
    rw [a0r hb1,h7];rfl
   ·have hb1:=d1K hl he (by omega) hlt hlen R P hi h6 h7;rw [show (prog[k].a0==6)=false from by simpa using h6,show (prog[k].a0==7)=false from by simpa using h7,e0P,e0P];cases hall:(E4 l prog[k] regs rs ps).1.all I4
    ·rw [hall,e0P] at hb1;rw [a0r hb1];rfl
    ·rw [hall,e0O] at hb1;rw [F8 hb1,e0O];exact ih _ _ _ _ (he.next hall) (by omega) (by omega)
  ·rw [d2F l (by omega)];exact stop k regs rs ps he (by omega) hk
theorem c1m{l:List m7}{prog:List m5}(hl:s6 l)(hp:s6 prog):a9T l prog=some (A6 l prog):=by
 unfold a9T A6;rw [a8u hl,d8Y,b2B hp,d8Y];cases hb:C0 l
 ·rfl
 cases ho:z9 prog
 ·rfl
 rw [d9e,e0P,e0P];exact d6w hb ho [] [] (prog.length+1) 0 [0,0,0,0] [] [] ei0 (by omega) (by omega)
end
def H6(l:List m7)(p:List m5):List m7×Int×Int:=bif (A6 l p).Code==3 then ([],0,3) else (a9j l (A6 l p).b6,(A6 l p).c7,(A6 l p).Code)
theorem d8d{l:List m7}{i:m5}{regs:List Int}{rs:List p7}{ps:List o7}(hl:C0 l=true)(h4:regs.length=4)(hr:regs.all I4=true)(hi:K1 i=true)(h1:a2d rs=true)(h2:a0q ps=true):a2d (E4 l i regs rs ps).2.1=true/\a0q (E4 l i regs rs ps).2.2=true:=by
 unfold E4;cases k1:i.a0==1
 ·simp only [e0P];cases k2:i.a0==2
  ·simp only [e0P];cases i.a0==3
   ·cases i.a0==4
    ·cases i.a0==5<;>exact ⟨h1,h2⟩
    ·exact ⟨h1,h2⟩
   ·exact ⟨h1,h2⟩
  ·simp only [e0O];unfold K1 at hi;rw [k1,k2] at hi;simp only [e0O,e0P,d82,C7] at hi;have hv:=a4Q h4 hr hi.2.1;refine ⟨h1,?_⟩;cases hp:W8 ps i.A with
   | some k=>
    have hk:=b6o hp;simp only [d8Z hk];exact c8e h2 hk hv
   | none=>
    simp only;refine d38 h2 ⟨hi.1.1,hi.1.2,hv⟩ ?_;unfold O4;rw [d9X];intro x hx;have:=e0L.1 hp x hx;simpa using this
 ·simp only [e0O];unfold K1 at hi;rw [k1] at hi;simp only [e0O,d82,C7] at hi;cases W8 ps i.B with
  | some k=>
   simp only;cases ps[k]?<;>exact ⟨h1,h2⟩
  | none=>
   simp only;cases hb:l[i.B.toNat]? with
   | none=>exact ⟨h1,h2⟩
   | some b=>
    simp only;cases hs:H5 rs i.B
    ·obtain ⟨b',b1,_,b3⟩:=a9R hl hi.2.1;unfold idx at b1;rw [if_pos hi.2.1.1,hb] at b1;injection b1 with b1;subst b1;rw [b4G] at b3;exact ⟨d72 h1 ⟨hi.2.1.1,hi.2.1.2,b3.1⟩ hs,h2⟩
    ·exact ⟨h1,h2⟩
theorem b7j{l:List m7}(hl:C0 l=true){prog:List m5}(hi:∀i∈prog,K1 i=true):∀(f k c:Nat) (regs:List Int) (rs:List p7) (ps:List o7),regs.length=4->regs.all I4=true->a2d rs=true->a0q ps=true->rs.length<=c->ps.length<=c->c+f<=40->Ran (X2 l prog f k regs rs ps)
 | 0,k,c,regs,rs,ps,h4,hr,h1,h2,h5,h6,h7=>by
  have w:Way ⟨rs,ps,0,0⟩ 40:=⟨rfl,h1,h2,by simp only;omega,by simp only;omega⟩
  exact b0o w (by omega) (.inl rfl) (fun _=>a4Q h4 hr (a:=0) ⟨by omega,by omega⟩)
 | f+1,k,c,regs,rs,ps,h4,hr,h1,h2,h5,h6,h7=>by
  have w:∀c,Way ⟨rs,ps,0,c⟩ 40:=fun c=>⟨rfl,h1,h2,by simp only;omega,by simp only;omega⟩
  unfold X2;cases hk:prog[k]? with
  | none=>exact b0o (w 0) (by omega) (.inl rfl) (fun _=>a4Q h4 hr (a:=0) ⟨by omega,by omega⟩)
  | some i=>
   have hin:=hi i (d9a hk);simp only;cases i.a0==6
   ·cases i.a0==7
    ·obtain ⟨a1,a2⟩:=d8d hl h4 hr hin h1 h2;have l4:=c2D (l:=l) (i:=i) (rs:=rs) (ps:=ps) h4;have lr:=c3L (l:=l) (i:=i) (regs:=regs) (ps:=ps) h5;have lp:=c5V (l:=l) (i:=i) (regs:=regs) (rs:=rs) h6;simp only [e0P];cases ha:(E4 l i regs rs ps).1.all I4
     ·have w2:Way ⟨(E4 l i regs rs ps).2.1,(E4 l i regs rs ps).2.2,0,2⟩ 40:=⟨rfl,a1,a2,by simp only;omega,by simp only;omega⟩
      exact b0o w2 (by omega) (.inr (.inr rfl)) (v:=0) (fun q=>absurd (show (2:Int)=0 from q) (by decide))
     ·exact b7j hl hi f (k+1) (c+1) _ _ _ l4 ha a1 a2 lr lp (by omega)
    ·exact b0o (w 1) (by omega) (.inr (.inl rfl)) (v:=0) (fun q=>absurd (show (1:Int)=0 from q) (by decide))
   ·exact b7j hl hi f _ c _ _ _ h4 hr h1 h2 h5 h6 (by omega)
theorem b5P{l:List m7}{p:List m5}(hl:C0 l=true)(hp:s6 p):Ran (A6 l p):=by
 unfold A6;rw [hl,d9m];cases hpo:z9 p
 ·exact (⟨by decide,by simp,by simp⟩:Ran ⟨[],[],0,3⟩)
 unfold z9 at hpo;simp only [d82,decide_eq_true_eq] at hpo;exact b7j hl (d86.1 hpo.2) _ 0 0 _ [] [] rfl (by decide) rfl rfl (by simp) (by simp) (by omega)
theorem Ran.f{r:m8}(h:Ran r):a07 r:=by
 have h1:=h.rlen;have h2:=h.plen;exact ⟨⟨by omega,fun _ _=>trivial⟩,⟨by omega,fun _ _=>trivial⟩,trivial⟩
theorem Ran.puts{r:m8}(h:Ran r):∀p∈r.b6,a1C p:=by
 have:=h.ok;rw [a4K] at this;simp only [d82] at this;exact (b1c.1 this.2.2.2.2.2).1
theorem d0g{l:List m7}{p:List m5}(hl:C0 l=false):(A6 l p).Code=3:=by
 unfold A6;rw [hl];rfl
theorem d6u{l:List m7}{p:List m5}(hl:s6 l)(hp:s6 p):b0b l p=some (H6 l p):=by
 unfold b0b H6;rw [c1m hl hp,d8Y];cases hc:(A6 l p).Code==3
 ·have hb:C0 l=true:=by
   cases hb:C0 l
   ·rw [d0g hb] at hc;cases hc
   ·rfl
  have hr:=b5P hb hp;simp only [e0P,d8Y,b8j hb hr.f hr.ok]
 ·rfl
theorem d6S{l:List m7}{p:List m5}(hl:C0 l=true)(hp:s6 p)(h:((H6 l p).2.2==3)=false):C0 (H6 l p).1=true:=by
 have hr:=b5P hl hp;unfold H6 at h ⊢;cases hc:(A6 l p).Code==3
 ·rw [e0P];exact b2c hl hr.puts
 ·rw [hc,e0O] at h;cases h
def a2w:List (List m5)->List m7->List Int->List m7×List Int
 | [],b,vs=>(b,vs)
 | p::ps,b,vs=>bif (H6 b p).2.2==3 then ([],[]) else a2w ps (H6 b p).1 (vs++[(H6 b p).2.1])
def H2(l:List m7)(progs:List (List m5)):List m7×List Int:=bif C0 l&&decide (progs.length<=100) then a2w progs l [] else ([],[])
theorem d5X{l:List Int}(h:l.length<=1000):b3F l=some l:=by
 unfold b3F;cases hl:((l.length:Int)==0)
 ·rw [e0P,x6 (by constructor<;>omega),x6 (by simp)]
 ·simp only [beq_iff_eq] at hl;have:l=[]:=d9c (by omega);rw [this];rfl
theorem d8q{progs:List (List m5)}(hp:∀p∈progs,s6 p)(hn:progs.length<=100):∀(m k:Nat) (b:List m7) (vs:List Int),k+m=progs.length->C0 b=true->vs.length=k->
  ((p6 (fun s:(List Int)×Int×List m7=>a6i progs s.1 s.2.1 s.2.2) (vs,(k:Int),b)).bind fun x=>x.go (fun r=>some r) fun s=>b0w s.1 s.2)=some (a2w (progs.drop k) b vs):=by
 intro m;induction m with
 | zero=>
  intro k b vs hk hb hv;have:k=progs.length:=by omega
  subst this;rw [List.drop_length,E9 (b:=(vs,b))]
  ·simp only [d8Y,j9.go];unfold b0w;rw [d5X (by omega)];rfl
  ·unfold a6i;simp only [A4];rfl
 | succ m ih=>
  intro k b vs hk hb hv;have hlt:k<progs.length:=by omega
  have hpk:=hp _ (d85 hlt);have n1:(vs.length+1)*8<=140737488355328:=by omega
  have hw:l9 ((k:Int)+1)=((k+1:Nat):Int):=by rw [B4 (by omega) (by omega)];rfl
  have hb1:a6i progs vs (k:Int) b=some (bif (H6 b progs[k]).2.2==3 then .ret ([],[]) else .nxt (vs++[(H6 b progs[k]).2.1],((k+1:Nat):Int),(H6 b progs[k]).1)):=by
   unfold a6i;simp only [x7 _ k hlt,s8 hlt,e0O,d8Y,d6u (a5y hb) hpk,x6 n1,hw];cases (H6 b progs[k]).2.2==3<;>rfl
  rw [d9F hlt];unfold a2w;cases hc:(H6 b progs[k]).2.2==3
  ·rw [hc,e0P] at hb1;rw [F8 hb1,e0P];exact ih (k+1) _ _ (by omega) (d6S hb hpk hc) (by simp;omega)
  ·rw [hc,e0O] at hb1;rw [a0r hb1];rfl
theorem d5f{l:List m7}{progs:List (List m5)}(hl:s6 l)(hp:∀p∈progs,s6 p):a8J l progs=some (H2 l progs):=by
 unfold a8J H2;rw [a8u hl,d8Y];cases hb:C0 l
 ·rfl
 rw [d9e,e0P,d9m];by_cases hn:progs.length<=100
 ·have h1:¬((progs.length:Int)>100):=by omega
  rw [decide_eq_false h1,e0P,decide_eq_true hn,e0O,b6B (by rw [a7x hb];decide),d8Y];have:=d8q hp hn progs.length 0 l [] (by omega) hb rfl;rwa [e0c] at this
 ·have h1:(progs.length:Int)>100:=by omega
  rw [decide_eq_true h1,decide_eq_false hn];rfl
def a7E(a b:List m7):Bool:=(a.length==b.length)&&(d87 a.length).all fun k=>match a[k]?,b[k]? with
 | some x,some y=>(([x.i8,x.c7]:List Int)==[y.i8,y.c7])
 | _,_=>false
theorem d4f{a b:List m7}(h:s6 a):a8D a b=some (a7E a b):=by
 unfold a8D b7o a7E;rw [c1e];cases hl:a.length==b.length
 ·rfl
 have hl:a.length=b.length:=by simpa using hl
 rw [d9e,e0P,d9m,a2I a h (fun k=>match a[k]?,b[k]? with|some x,some y=>(([x.i8,x.c7]:List Int)==[y.i8,y.c7])|_,_=>false) false ()]
 ·cases (d87 a.length).all _<;>rfl
 ·intro k hk _;unfold b3Q;rw [x7 _ k hk,s8 hk,s8 (hl▸hk),d8Z hk,d8Z (hl▸hk)];simp only [e0O,d8Y];cases (([a[k].i8,a[k].c7]:List Int)==[(b[k]'(hl▸hk)).i8,(b[k]'(hl▸hk)).c7])<;>rfl
 ·unfold b3Q;rw [A4];rfl
def X0(l:List l7)(q:p9):Int:=match l.findIdx? (E8 q) with
 | some k=>(match l[k]? with|some e=>e.d6.c7|none=>0)
 | none=>0
def a5w:List m7:=d81 4 ⟨0,0⟩
theorem b6g:C0 a5w=true:=by decide
theorem d0p:b6S=some a5w:=rfl
theorem d5t:a9p=some a5w:=rfl
abbrev zV:n7:=⟨0,zE⟩
def b6w(n:j6)(k:Nat):n7:=n.Acc.a8[k]?.getD zV
def d8S(a b:n7):Bool := !(decide (a.a5>0)&&((a.a5==b.a5) && !Q2 a.d7 b.d7))
def O9(n:j6):Bool:=bif n.a9 != 3 then true else decide ((b6w n n.a6.length).a5>=n.a5)&&(decide ((b6w n n.a6.length).a5>n.a5)||Q2 (b6w n n.a6.length).d7 n.c9)
def other(a b:j6):Bool := !(decide (a.a5>0)&&(a.a5==b.a5))
def eN:l7:=⟨true,⟨0,0⟩,⟨[],[],0,0⟩⟩
def v0:n7:=⟨0,zE⟩
def a8m(b:Int):Bool:=m9 b 1 3000
def C3(a:v6)(b:Int):Option v6:=bif a8m b&&decide (a.d9<=b) then some ⟨b,a.a8⟩ else none
def N2(vs:List n7)(n:Nat):List n7:=vs++d81 (n-vs.length) v0
def D7(a:v6)(b slot:Int)(e:l7):Option v6:=
 bif m9 slot 0 39&&s9 e then (C3 a b).map fun x=>⟨x.d9,(N2 x.a8 (slot.toNat+1)).set slot.toNat ⟨b,e⟩⟩ else none
def B2:List n7->List n7->List n7
 | [],b=>b
 | a,[]=>a
 | x::a,y::b=>(bif decide (y.a5>x.a5) then y else x)::B2 a b
def H3(b who:Int):Int:=
 bif decide (b+1<=3000)&&(d9x (b+1) 3==who) then b+1 else
 bif decide (b+2<=3000)&&(d9x (b+2) 3==who) then b+2 else
 bif decide (b+3<=3000)&&(d9x (b+3) 3==who) then b+3 else -1
def a15(n:j6):j6:={n with a9:=0,a5:=0,b7:=[],f0:=[],c9:=zE,a8:=[]}
def a6w(n:j6):j6:={n with i4:=false,i6:=[],b8:=zE}
def E7(l:List l7)(q:p9):Bool:=l.any (E8 q)
def W7(id:Int):List Bool:=(d81 3 false).set id.toNat true
def F7(l:List Bool):Bool:=decide (2<=(l.filter (· == true)).length)
def C2(id:Int)(m:l8):List l8:=(([0,1,2]:List Int).filter (· != id)).map fun t=>{m with b7:=id,To:=t}
def G7(m out:l8):l8:={out with b7:=m.To,To:=m.b7}
def H4(n:j6)(b:Int):j6:=bif n.a9 != 0&&decide (b>n.a5) then a15 n else n
def O7(known:List l7):List l7->List l7×Option l7
 | []=>([],none)
 | e::q=>bif E7 known e.a7 then O7 known q else (q,some e)
def a01(n:j6):j6×Option l7:=
 bif (n.f0.drop n.a6.length).any (fun v=>decide (v.a5>0)) then (n,some eN)
 else bif n.i4 && !E7 n.a6 n.b8.a7 then (n,some n.b8)
 else ({n with d8:=(O7 n.a6 n.d8).1},(O7 n.a6 n.d8).2)
def R5(n:j6):j6×Option l7:=match n.f0[n.a6.length]? with
 | some v=>bif decide (v.a5>0) then (n,some v.d7) else a01 n
 | none=>a01 n
def a1o(x:j6)(e:l7):j6×List l8:=match D7 x.Acc x.a5 (x.a6.length:Int) e with
 | some a=>({x with Acc:=a,a9:=3,c9:=e,a8:=W7 x.Id},C2 x.Id ⟨3,0,0,x.a5,(x.a6.length:Int),e,[]⟩)
 | none=>(a15 x,[])
def E2(n:j6):j6×List l8:=
 bif n.a9 != 2||decide (40<=n.a6.length) then (n,[]) else match R5 n with
  | (x,some e)=>a1o x e
  | (x,none)=>(x,[])
def M9(n:j6):j6×List r9:=
 bif n.i4 then (match n.a6.findIdx? (E8 n.b8.a7) with
  | some k=>(a6w n,[⟨n.Id,n.b8.a7,P7 n.a6 k,bif P7 n.a6 k==0 then X0 n.a6 n.b8.a7 else 0⟩])
  | none=>(n,[]))
 else (n,[])
def A9(n:j6)(e:l7):j6:=
 bif n.a9==3 then {n with a6:=n.a6++[e],a9:=2,c9:=zE,a8:=[]} else {n with a6:=n.a6++[e]}
def Q1(n:j6)(e:l7):j6×List l8×List r9:=
 ((E2 (M9 (A9 n e)).1).1,(E2 (M9 (A9 n e)).1).2,(M9 (A9 n e)).2)
def U9(n:j6)(m:l8):j6×List l8:=match C3 n.Acc m.a5 with
 | some a=>(H4 {n with Acc:=a} m.a5,[G7 m ⟨2,0,0,m.a5,m.c8,zE,a.a8.drop m.c8.toNat⟩])
 | none=>(n,[G7 m ⟨6,0,0,n.Acc.d9,0,zE,[]⟩])
def U2(n:j6)(m:l8):j6×List l8:=match D7 n.Acc m.a5 m.c8 m.d7 with
 | some a=>(H4 {n with Acc:=a} m.a5,[G7 m ⟨4,0,0,m.a5,m.c8,zE,[]⟩])
 | none=>(n,[G7 m ⟨6,0,0,n.Acc.d9,0,zE,[]⟩])
def U3(n:j6)(m:l8):j6×List l8:=
 bif n.a9 != 1||m.a5 != n.a5 then (n,[]) else
 bif F7 (n.b7.set m.b7.toNat true) then
  E2 {n with b7:=[],f0:=B2 n.f0 (d81 m.c8.toNat v0++m.a8),a9:=2}
 else ({n with b7:=n.b7.set m.b7.toNat true,f0:=B2 n.f0 (d81 m.c8.toNat v0++m.a8)},[])
def a0l(n:j6)(m:l8):j6×List l8×List r9:=
 bif n.a9 != 3||(m.a5 != n.a5||m.c8 != (n.a6.length:Int)) then (n,[],[]) else
 bif F7 (n.a8.set m.b7.toNat true) then
  ((Q1 {n with a8:=n.a8.set m.b7.toNat true} n.c9).1,C2 n.Id ⟨5,0,0,0,(n.a6.length:Int),n.c9,[]⟩++(Q1 {n with a8:=n.a8.set m.b7.toNat true} n.c9).2.1,(Q1 {n with a8:=n.a8.set m.b7.toNat true} n.c9).2.2)
 else ({n with a8:=n.a8.set m.b7.toNat true},[],[])
def Z9(n:j6)(m:l8):j6×List l8×List r9:=
 bif decide (m.c8<(n.a6.length:Int)) then (n,[],[]) else
 bif decide (m.c8>(n.a6.length:Int)) then (n,[G7 m ⟨8,0,0,0,(n.a6.length:Int),zE,[]⟩],[])
 else Q1 n m.d7
def U5(n:j6)(m:l8):j6×List l8:=
 bif n.a9==0||(decide (4<=n.d8.length)||E7 n.a6 m.d7.a7) then (n,[]) else E2 {n with d8:=n.d8++[m.d7]}
def V9(n:j6)(m:l8)(s:Nat):List l8:=match n.a6[s]? with
 | some e=>[G7 m ⟨5,0,0,0,(s:Int),e,[]⟩]
 | none=>[]
def a0X(n:j6)(m:l8):List l8:=((d87 (n.a6.length-m.c8.toNat)).map fun j=>V9 n m (m.c8.toNat+j)).flatten
def L0(n:j6)(m:l8):j6×List l8×List r9:=
 bif m.a0==1 then ((U9 n m).1,(U9 n m).2,[]) else
 bif m.a0==2 then ((U3 n m).1,(U3 n m).2,[]) else
 bif m.a0==3 then ((U2 n m).1,(U2 n m).2,[]) else
 bif m.a0==4 then a0l n m else
 bif m.a0==5 then Z9 n m else
 bif m.a0==6 then (H4 {n with Acc:=(C3 n.Acc m.a5).getD n.Acc} m.a5,[],[]) else
 bif m.a0==7 then ((U5 n m).1,(U5 n m).2,[]) else
 bif m.a0==8 then (n,a0X n m,[]) else (n,[],[])
def D5(n:j6)(prog:List m5):j6×List l8:=
 bif n.i4||(n.Seq==1000||(A6 (u5 n.a6).1.i0 prog).Code==3) then (n,[]) else
 bif n.a9==2 then E2 {n with Seq:=n.Seq+1,i4:=true,i6:=prog,b8:=⟨false,⟨n.Id,n.Seq+1⟩,A6 (u5 n.a6).1.i0 prog⟩}
 else ({n with Seq:=n.Seq+1,i4:=true,i6:=prog,b8:=⟨false,⟨n.Id,n.Seq+1⟩,A6 (u5 n.a6).1.i0 prog⟩},
  bif n.a9==0 then C2 n.Id ⟨7,0,0,0,0,⟨false,⟨n.Id,n.Seq+1⟩,A6 (u5 n.a6).1.i0 prog⟩,[]⟩ else [])
def M5(n:j6):j6×List l8:=
 bif decide (H3 n.Acc.d9 n.Id<0) then (n,[]) else
 ({a15 n with Acc:=⟨H3 n.Acc.d9 n.Id,n.Acc.a8⟩,a9:=1,a5:=H3 n.Acc.d9 n.Id,b7:=W7 n.Id,f0:=n.Acc.a8},
  C2 n.Id ⟨1,0,0,H3 n.Acc.d9 n.Id,(n.a6.length:Int),zE,[]⟩)
def K7(n:j6):j6×List l8:=
 bif n.a9==1 then (n,C2 n.Id ⟨8,0,0,0,(n.a6.length:Int),zE,[]⟩++C2 n.Id ⟨1,0,0,n.a5,(n.a6.length:Int),zE,[]⟩) else
 bif n.a9==2 then ((E2 n).1,C2 n.Id ⟨8,0,0,0,(n.a6.length:Int),zE,[]⟩++(E2 n).2) else
 bif n.a9==3 then (n,C2 n.Id ⟨8,0,0,0,(n.a6.length:Int),zE,[]⟩++C2 n.Id ⟨3,0,0,n.a5,(n.a6.length:Int),n.c9,[]⟩) else
 bif n.i4 then (n,C2 n.Id ⟨8,0,0,0,(n.a6.length:Int),zE,[]⟩++C2 n.Id ⟨7,0,0,0,0,n.b8,[]⟩) else
 (n,C2 n.Id ⟨8,0,0,0,(n.a6.length:Int),zE,[]⟩)
def A2(id:Int):j6:=⟨id,⟨0,[]⟩,[],0,0,0,[],[],zE,[],false,[],zE,[]⟩
def Y5(n:j6):j6:={A2 n.Id with Acc:=n.Acc,a6:=n.a6,Seq:=n.Seq}
def L3:j8:=⟨[A2 0,A2 1,A2 2],[],[],[]⟩
def M7(w:j8)(l:List l8):j8:={w with g8:=w.g8++l.take (40-w.g8.length)}
def a1R(w:j8)(l:List r9):j8:={w with Told:=w.Told++l.take (60-w.Told.length)}
def D9(w:j8)(i:Int)(n:j6):j8:={w with c6:=w.c6.set i.toNat n}
def X9(w:j8)(i:Int):j8:={w with g8:=w.g8.take i.toNat++w.g8.drop (i.toNat+1)}
def u7(w:j8)(i:Int):j6:=w.c6.getD i.toNat (A2 0)
def a0T(w:j8)(i:Int)(prog:List m5):j8:=
 bif decide (60<=w.g9.length) then w else
 M7 (D9 (bif decide ((D5 (u7 w i) prog).1.Seq>(u7 w i).Seq) then {w with g9:=w.g9++[⟨(D5 (u7 w i) prog).1.b8.a7,prog⟩]} else w) i (D5 (u7 w i) prog).1) (D5 (u7 w i) prog).2
def Z0(w:j8)(e:F9):j8:=bif decide (0<=e.A) then (match w.g8[e.A.toNat]? with
 | some m=>bif e.a0==4 then M7 w [m] else bif e.a0==3 then X9 w e.A else
  a1R (M7 (D9 (X9 w e.A) m.To (L0 (u7 w m.To) m).1) (L0 (u7 w m.To) m).2.1) (L0 (u7 w m.To) m).2.2
 | none=>w) else w
def E0(w:j8)(e:F9):j8:=
 bif e.a0==2||(e.a0==3||e.a0==4) then Z0 w e else
 bif !m9 e.A 0 2 then w else
 bif e.a0==1 then a0T w e.A e.i6 else
 bif e.a0==5 then M7 (D9 w e.A (M5 (u7 w e.A)).1) (M5 (u7 w e.A)).2 else
 bif e.a0==6 then M7 (D9 w e.A (K7 (u7 w e.A)).1) (K7 (u7 w e.A)).2 else
 bif e.a0==7 then D9 w e.A (Y5 (u7 w e.A)) else w
theorem a2r:F4 0:=⟨by decide,by decide⟩
theorem a1m{α:Type}{b:Nat}{ok:α->Prop}:z0 b ok ([]:List α):=⟨by simp,fun x hx=>by cases hx⟩
theorem a2R:I7 zE:=⟨⟨a2r,a2r⟩,a1m,a1m,a2r,a2r⟩
theorem c31:I7 eN:=⟨⟨a2r,a2r⟩,a1m,a1m,a2r,a2r⟩
theorem c0s:a0k v0:=⟨a2r,a2R⟩
theorem d4K{α R B:Type}{body:List α×Int->Option (j7 R (List α×Int) B)}(l:List α)(hl:s6 l)(f:List α->B)(h1:∀(k:Nat) (h:k<l.length),body (l.take k,(k:Int))=some (.nxt (l.take k++[l[k]],l9 ((k:Int)+1))))(h2:body (l,(l.length:Int))=some (.brk (f l))):p6 body ([],0)=some (.brk (f l)):=by
 have h:=a1u (body:=body) (fun k=>(l.take k,(k:Int))) l.length (by
  intro k hk;rw [h1 k hk,J2 hl hk,d9H hk])
 rw [show ((0:Nat):Int)=0 from rfl,d9S] at h;rw [h,d9L];exact E9 h2
theorem b4D(vs:List n7)(n:Nat):(N2 vs n).length=max vs.length n:=by
 unfold N2;simp;omega
theorem a85:∀a b:List n7,(B2 a b).length=max a.length b.length
 | [],b=>by simp [B2]
 | x::a,[]=>by simp [B2]
 | x::a,y::b=>by simp only [B2,d92,a85 a b];omega
theorem a7q:∀(a b:List n7) (k:Nat),(B2 a b)[k]?=match a[k]?,b[k]? with
  | some x,some y=>some (bif decide (y.a5>x.a5) then y else x)
  | some x,none=>some x
  | none,some y=>some y
  | none,none=>none
 | [],b,k=>by simp [B2];cases b[k]?<;>rfl
 | x::a,[],k=>by simp [B2];cases (x::a)[k]?<;>rfl
 | x::a,y::b,0=>by simp [B2]
 | x::a,y::b,k+1=>by simp only [B2,e0g];exact a7q a b k
theorem a6v{a b:List n7}{v:n7}(h:v∈B2 a b):v∈a\/v∈b:=by
 obtain ⟨k,hk⟩:=e0q h;rw [a7q] at hk;cases ha:a[k]? with
 | none=>
  cases hb:b[k]? with
  | none=>rw [ha,hb] at hk;cases hk
  | some y=>rw [ha,hb] at hk;injection hk with hk;subst hk;exact .inr (d9a hb)
 | some x=>
  cases hb:b[k]? with
  | none=>rw [ha,hb] at hk;injection hk with hk;subst hk;exact .inl (d9a ha)
  | some y=>
   rw [ha,hb] at hk;simp only at hk;cases hd:decide (y.a5>x.a5)
   ·rw [hd] at hk;injection hk with hk;subst hk;exact .inl (d9a ha)
   ·rw [hd] at hk;injection hk with hk;subst hk;exact .inr (d9a hb)
theorem x8{n:Int}(h:-1000000000<=n/\n<=1000000000):F4 n:=⟨by omega,by omega⟩
theorem a0o{α:Type}{b:Nat}{ok:α->Prop}{l:List α}(hl:l.length*b<=1000000000)(h:∀x∈l,ok x):z0 b ok l:=⟨by omega,h⟩
theorem c1O{l:List l7}{q:p9}:E7 l q=(l.findIdx? (E8 q)).isSome:=by
 unfold E7;cases h:l.findIdx? (E8 q) with
 | none=>
  rw [e0L] at h;rw [Option.isSome_none,d9X];intro x hx;rw [h x hx];simp
 | some k=>
  rw [d98] at h;obtain ⟨hk,h1,_⟩:=h;rw [Option.isSome_some];exact e0I.2 ⟨l[k],d85 hk,h1⟩
theorem c01(known:List l7):∀(q:List l7),(O7 known q).1.length<=q.length/\(∀x∈(O7 known q).1,x∈q)/\∀e,(O7 known q).2=some e->e∈q/\E7 known e.a7=false/\(O7 known q).1.length<q.length
 | []=>⟨d9B _,fun x hx=>hx,fun e he=>by cases he⟩
 | e::q=>by
  unfold O7;cases hk:E7 known e.a7
  ·refine ⟨by simp,fun x hx=>by simpa using .inr hx,fun e' he => ?_⟩;injection he with he;subst he;exact ⟨by simp,hk,by simp⟩
  ·obtain ⟨a,b,c⟩:=c01 known q;refine ⟨by simp only [e0O,d92];omega,fun x hx=>List.mem_cons_of_mem _ (b x hx),fun e' he => ?_⟩;obtain ⟨x,y,z⟩:=c e' he;exact ⟨List.mem_cons_of_mem _ x,y,by simp only [e0O,d92];omega⟩
inductive a0C (n:j6):l7->Prop
 | best (v) (h:n.f0[n.a6.length]?=some v) (hb:v.a5>0):a0C n v.d7
 | gap (v) (h:v∈n.f0.drop n.a6.length) (hb:v.a5>0) (hn:∀v,n.f0[n.a6.length]?=some v->¬v.a5>0):a0C n eN
 | want (h:n.i4=true) (hk:E7 n.a6 n.b8.a7=false) (hn:∀v∈n.f0.drop n.a6.length,¬v.a5>0):a0C n n.b8
 | queue (e) (h:e∈n.d8) (hk:E7 n.a6 e.a7=false) (hn:∀v∈n.f0.drop n.a6.length,¬v.a5>0):a0C n e
theorem a6r(n:j6):∃q:List l7,(R5 n).1={n with d8:=q}/\q.length<=n.d8.length/\(∀x∈q,x∈n.d8)/\∀e,(R5 n).2=some e->a0C n e:=by
 have rest:(∀v,n.f0[n.a6.length]?=some v->¬v.a5>0)->∃q:List l7,(a01 n).1={n with d8:=q}/\q.length<=n.d8.length/\(∀x∈q,x∈n.d8)/\∀e,(a01 n).2=some e->a0C n e:=by
  intro hn;unfold a01;cases ha:(n.f0.drop n.a6.length).any fun v=>decide (v.a5>0)
  ·have hnv:∀v∈n.f0.drop n.a6.length,¬v.a5>0:=fun v hv=>by simpa using d9X.1 ha v hv
   cases hb:n.i4 && !E7 n.a6 n.b8.a7
   ·obtain ⟨a,b,c⟩:=c01 n.a6 n.d8;exact ⟨_,rfl,a,b,fun e he=>.queue e (c e he).1 (c e he).2.1 hnv⟩
   ·simp only [d82,d9R] at hb;refine ⟨n.d8,rfl,d9B _,fun _ h=>h,fun e he => ?_⟩;injection he with he;subst he;exact .want hb.1 hb.2 hnv
  ·obtain ⟨v,hv,hb⟩:=e0I.1 ha;refine ⟨n.d8,rfl,d9B _,fun _ h=>h,fun e he => ?_⟩;injection he with he;subst he;exact .gap v hv (by simpa using hb) hn
 unfold R5;cases hg:n.f0[n.a6.length]? with
 | none=>exact rest (by rw [hg];simp)
 | some v=>
  simp only;cases hb:decide (v.a5>0)
  ·exact rest (by rw [hg];intro w hw;injection hw with hw;subst hw;simpa using hb)
  ·refine ⟨n.d8,rfl,d9B _,fun _ h=>h,fun e he => ?_⟩;injection he with he;subst he;exact .best v hg (by simpa using hb)
theorem a0C.ok{n:j6}(h:a10 n){e:l7}(hn:a0C n e):I7 e:=by
 cases hn with
 | best v hv hb=>exact (h.2.2.2.2.2.2.2.1.2 v (d9a hv)).2
 | gap=>exact c31
 | want=>exact h.2.2.2.2.2.2.2.2.2.2.2.1
 | queue e hq=>exact h.2.2.2.2.2.2.2.2.2.2.2.2.2 e hq
theorem d0C{id:Int}(h:0<=id/\id<=2):∃y,idx (d81 (3:Int).toNat false) id=some y:=by
 obtain rfl|rfl|rfl:id=0\/id=1\/id=2:=by omega
 all_goals exact ⟨false,rfl⟩
theorem a8P(n:j6):(M9 n=(n,[]))\/∃k,n.i4=true/\n.a6.findIdx? (E8 n.b8.a7)=some k/\M9 n=(a6w n,[⟨n.Id,n.b8.a7,P7 n.a6 k,bif P7 n.a6 k==0 then X0 n.a6 n.b8.a7 else 0⟩]):=by
 unfold M9;cases n.i4
 ·exact .inl rfl
 ·cases h:n.a6.findIdx? (E8 n.b8.a7) with
  | none=>exact .inl rfl
  | some k=>exact .inr ⟨k,rfl,rfl,rfl⟩
theorem d3C(n:j6):(M9 n).1.Id=n.Id:=by
 rcases a8P n with q|⟨k,_,_,q⟩<;>rw [q];rfl
theorem b7n(n:j6)(e:l7):(A9 n e).Id=n.Id:=by
 unfold A9;cases n.a9==3<;>rfl
theorem b7U(n:j6)(e:l7):(A9 n e).a6=n.a6++[e]:=by
 unfold A9;cases n.a9==3<;>rfl
theorem c9O{r:m8}(h:O6 r=true):r.b5.length<=4:=by
 have h0:a2d r.b5=true:=by
  rw [a4K] at h;simp only [d82] at h;exact h.2.2.2.2.1
 obtain ⟨h1,h2⟩:=c1Y.1 h0;let ps:List o7:=r.b5.map fun x=>⟨x.g7,0⟩
 have hp:∀p∈ps,a1C p:=by
  intro p hp;obtain ⟨x,hx,rfl⟩:=d9l.1 hp;exact ⟨(h1 x hx).1,(h1 x hx).2.1,by simp,by simp⟩
 have hpw:ps.Pairwise fun p q=>p.g7≠q.g7:=List.pairwise_map.2 h2
 have hl:=b4X hp;have a:=a3v hpw 0;have b:=a3v hpw 1;have c:=a3v hpw 2;have d:=a3v hpw 3;have:ps.length=r.b5.length:=d9g ..;omega
theorem d3M{r:m8}(h:a2i r ⟨[],[],0,0⟩=true):r=⟨[],[],0,0⟩:=(c0e _ _).1 h
theorem c7b{e:l7}(h:s9 e=true)(hn:e.i7=true):e=eN:=by
 unfold s9 at h;rw [hn] at h;simp only [e0O,d82,beq_iff_eq,List.cons.injEq,and_true] at h;obtain ⟨⟨h1,h2⟩,h3⟩:=h;have h4:=d3M h3;clear h3;obtain ⟨n,⟨a,b⟩,r⟩:=e;simp only at hn h1 h2 h4;subst hn h1 h2 h4;rfl
theorem c6U{r:m8}(h:O6 r=true):b0P r:=by
 obtain ⟨h1,h2,_,h4,h5⟩:=a7S h;have r4:=c9O h;have p4:=d02 h;exact ⟨a0o (by omega) fun x hx=>by have:=h4 x hx;exact ⟨x8 (by omega),x8 (by omega)⟩,
  a0o (by omega) fun x hx=>by have:=h5 x hx;exact ⟨x8 (by omega),x8 (by omega)⟩,x8 (by omega),x8 (by omega)⟩
theorem a5z{e:l7}(h:s9 e=true):I7 e:=by
 cases hn:e.i7 with
 | true=>rw [c7b h hn];exact c31
 | false=>
  obtain ⟨h1,h2,h3,_⟩:=a4n h hn;exact ⟨⟨x8 (by omega),x8 (by omega)⟩,c6U h3⟩
theorem c1A{l:List l7}(hl:l.length<=1000)(h:∀e∈l,s9 e=true):z0 88 I7 l:=a0o (by omega) fun e he=>a5z (h e he)
def VI(v:n7):Prop:=v=v0\/(1<=v.a5/\v.a5<=3000/\s9 v.d7=true)
theorem d5k{v:n7}:S9 v=true↔VI v:=by
 unfold S9 VI;by_cases hb:v.a5=0
 ·simp only [hb,beq_self_eq_true,e0O,a20];constructor
  ·intro h;left;obtain ⟨b,e⟩:=v;simp only at hb h;subst hb h;rfl
  ·rintro (h|h)
   ·rw [h];rfl
   ·omega
 ·have:(v.a5==0)=false:=by simpa using hb
  simp only [this,e0P,d82,C7];constructor
  ·intro h;exact .inr ⟨h.1.1,h.1.2,h.2⟩
  ·rintro (h|h)
   ·rw [h] at hb;exact absurd rfl hb
   ·exact ⟨⟨h.1,h.2.1⟩,h.2.2⟩
theorem VI.ok{v:n7}(h:VI v):a0k v:=by
 rcases h with rfl|⟨h1,h2,h3⟩
 ·exact c0s
 ·exact ⟨x8 (by omega),a5z h3⟩
theorem VI.bal{v:n7}(h:VI v):0<=v.a5/\v.a5<=3000:=by
 rcases h with rfl|⟨h1,h2,h3⟩
 ·exact ⟨by decide,by decide⟩
 ·exact ⟨by omega,h2⟩
theorem VI.pos{v:n7}(h:VI v)(hb:v.a5>0):s9 v.d7=true:=by
 rcases h with rfl|⟨_,_,h⟩
 ·exact absurd hb (by decide)
 ·exact h
theorem a6B{l:List n7}(hl:l.length<=1000)(h:∀v∈l,VI v):z0 96 a0k l:=a0o (by omega) fun v hv=>(h v hv).ok
theorem a5a{l:List n7}:G8 l=true↔l.length<=40/\∀v∈l,VI v:=by
 unfold G8;simp only [d82,decide_eq_true_eq,d86,d5k]
structure d5L(id bal pr:Int)(best:List n7):Prop where
 b1:1<=bal
 b2:bal<=3000
 mod:d9x bal 3=id
 pr:bal<=pr
 bl:best.length<=40
 bs:∀v∈best,VI v
abbrev Own(n:j6):Prop:=d5L n.Id n.a5 n.Acc.d9 n.f0
def U7(n:j6):Prop:=
 (n.a9=0/\n.a5=0/\n.b7=[]/\n.f0=[]/\n.c9=zE/\n.a8=[])\/
 (n.a9=1/\Own n/\n.b7.length=3/\n.b7[n.Id.toNat]?=some true/\n.c9=zE/\n.a8=[])\/
 (n.a9=2/\Own n/\n.b7=[]/\n.c9=zE/\n.a8=[])\/
 (n.a9=3/\Own n/\n.b7=[]/\s9 n.c9=true/\n.a8.length=3/\n.a8[n.Id.toNat]?=some true/\n.a6.length<40)
def b4j(n:j6):Prop:=
 (n.i4=true/\z9 n.i6=true/\s9 n.b8=true/\n.b8.i7=false/\n.b8.a7=⟨n.Id,n.Seq⟩)\/(n.i4=false/\n.i6=[]/\n.b8=zE)
structure NI(n:j6):Prop where
 id:0<=n.Id/\n.Id<=2
 pr:0<=n.Acc.d9/\n.Acc.d9<=3000
 vl:n.Acc.a8.length<=40
 vs:∀v∈n.Acc.a8,VI v/\v.a5<=n.Acc.d9
 kl:n.a6.length<=40
 ks:∀e∈n.a6,s9 e=true
 sq:0<=n.Seq/\n.Seq<=1000
 ql:n.d8.length<=4
 qs:∀e∈n.d8,s9 e=true/\e.i7=false
 ld:U7 n
 wt:b4j n
theorem a79{α:Type}{l:List α}:((l.length:Int)==0)=true↔l=[]:=by
 rw [beq_iff_eq];constructor
 ·intro h;exact d9c (by omega)
 ·rintro rfl;rfl
theorem c88{α:Type}{l:List α}:((l.length:Int)=0)↔l=[]:=by rw [<-a79,beq_iff_eq]
theorem c2U{l:List Bool}{id:Int}(h:0<=id/\id<=2):a2k l id=true↔l.length=3/\l[id.toNat]?=some true:=by
 unfold a2k b2D;have e:idx l id=l[id.toNat]?:=by unfold idx;rw [if_pos h.1]
 rw [e,d82,beq_iff_eq];constructor
 ·rintro ⟨h1,h2⟩
  refine ⟨by omega,?_⟩;cases hq:l[id.toNat]? with
  | none=>rw [hq] at h2;cases h2
  | some b=>rw [hq] at h2;simp at h2;rw [h2]
 ·rintro ⟨h1,h2⟩
  exact ⟨by omega,by rw [h2];rfl⟩
theorem b5I{n:j6}:a1F n=true↔n.c9=zE/\n.a8=[]:=by
 unfold a1F;rw [d82,a20,a79]
theorem c3O{n:j6}(hid:0<=n.Id/\n.Id<=2):a0f n=true↔U7 n:=by
 have hown:(R6 n.a5==n.Id)=true/\n.a5<=n.Acc.d9/\G8 n.f0=true↔Own n:=by
  rw [a5a];constructor
  ·rintro ⟨h1,h2,h3⟩
   have hb:=C7.1 (c2E (C7.2 hid) h1);unfold R6 at h1;rw [C7.2 hb] at h1;exact ⟨hb.1,hb.2,by simpa using h1,h2,h3.1,h3.2⟩
  ·intro h;refine ⟨?_,h.pr,h.bl,h.bs⟩;unfold R6;rw [C7.2 ⟨h.b1,h.b2⟩];simpa using h.mod
 unfold a0f U7;by_cases p0:n.a9=0
 ·simp only [p0,beq_self_eq_true,e0O,d82,b5I,beq_iff_eq,c88];constructor
  ·rintro ⟨a,b,c,d,e⟩;exact .inl ⟨trivial,a,b,c,d,e⟩
  ·rintro (h|h|h|h)
   ·exact ⟨h.2.1,h.2.2.1,h.2.2.2.1,h.2.2.2.2.1,h.2.2.2.2.2⟩
   all_goals exact absurd h.1 (by omega)
 ·have q0:(n.a9==0)=false:=by simpa using p0
  simp only [q0,e0P,d82,decide_eq_true_eq];rw [<-and_assoc,<-and_assoc,and_assoc (a:=(R6 n.a5==n.Id)=true),hown];by_cases p1:n.a9=1
  ·simp only [p1,beq_self_eq_true,e0O,d82,c2U hid,b5I];constructor
   ·rintro ⟨a,⟨b,c⟩,d,e⟩;exact .inr (.inl ⟨trivial,a,b,c,d,e⟩)
   ·rintro (h|h|h|h)
    ·exact absurd h.1 (by omega)
    ·exact ⟨h.2.1,⟨h.2.2.1,h.2.2.2.1⟩,h.2.2.2.2.1,h.2.2.2.2.2⟩
    all_goals exact absurd h.1 (by omega)
  ·have q1:(n.a9==1)=false:=by simpa using p1
   by_cases p2:n.a9=2
   ·have q2:(n.a9==2)=true:=by simpa using p2
    simp only [q1,q2,e0O,e0P,d82,a79,b5I];constructor
    ·rintro ⟨a,b,c,d⟩;exact .inr (.inr (.inl ⟨p2,a,b,c,d⟩))
    ·rintro (h|h|h|h)
     ·exact absurd h.1 (by omega)
     ·exact absurd h.1 (by omega)
     ·exact ⟨h.2.1,h.2.2.1,h.2.2.2.1,h.2.2.2.2⟩
     ·exact absurd h.1 (by omega)
   ·have q2:(n.a9==2)=false:=by simpa using p2
    by_cases p3:n.a9=3
    ·have q3:(n.a9==3)=true:=by simpa using p3
     simp only [q1,q2,q3,e0O,e0P,d82,a79,c2U hid,decide_eq_true_eq];constructor
     ·rintro ⟨a,b,c,⟨d,e⟩,f⟩;exact .inr (.inr (.inr ⟨p3,a,b,c,d,e,by omega⟩))
     ·rintro (h|h|h|h)
      ·exact absurd h.1 (by omega)
      ·exact absurd h.1 (by omega)
      ·exact absurd h.1 (by omega)
      ·exact ⟨h.2.1,h.2.2.1,h.2.2.2.1,⟨h.2.2.2.2.1,h.2.2.2.2.2.1⟩,by omega⟩
    ·have q3:(n.a9==3)=false:=by simpa using p3
     simp only [q1,q2,q3,e0P,d94,and_false,false_iff];rintro (h|h|h|h)<;>omega
theorem b6f{a b:p9}:(([a.b9,a.Seq]:List Int)==[b.b9,b.Seq])=true↔a=b:=by
 obtain ⟨a1,a2⟩:=a;obtain ⟨b1,b2⟩:=b;simp
theorem c4s{n:j6}:a2X n=true↔b4j n:=by
 unfold a2X b4j;cases n.i4
 ·simp only [e0P,d82,a79,a20,d94,false_and,false_or,true_and]
 ·simp only [e0O,d82,d9R,Bool.true_eq_false,false_and,or_false,true_and];rw [show (([n.b8.a7.b9,n.b8.a7.Seq]:List Int)==[n.Id,n.Seq])=true↔n.b8.a7=⟨n.Id,n.Seq⟩ from b6f (b:=⟨n.Id,n.Seq⟩)]
theorem a2O{n:j6}:D6 n=true↔NI n:=by
 unfold D6 K2 G6 a90;simp only [d82,C7,a5a,d86,decide_eq_true_eq,d9R,decide_eq_false_iff_not];constructor
 ·rintro ⟨h1,⟨h2,h3,h4⟩,⟨h5,h6⟩,h7,h8,h9,h10,h11⟩
  exact ⟨h1,h2,h3.1,fun v hv=>⟨h3.2 v hv,by have:=h4 v hv;omega⟩,h5,h6,h7,by omega,h11,(c3O h1).1 h9,c4s.1 h10⟩
 ·intro h;exact ⟨h.id,⟨h.pr,⟨h.vl,fun v hv=>(h.vs v hv).1⟩,fun v hv=>by have:=(h.vs v hv).2;omega⟩,⟨h.kl,h.ks⟩,h.sq,by have:=h.ql;omega,(c3O h.id).2 h.ld,c4s.2 h.wt,h.qs⟩
theorem d0a{i:m5}(h:K1 i=true):a7t i:=by
 unfold K1 at h;by_cases k1:i.a0=1
 ·simp [k1,m9] at h;exact ⟨x8 (by omega),x8 (by omega),x8 (by omega),x8 (by omega)⟩
 by_cases k2:i.a0=2
 ·simp [k2,m9] at h;exact ⟨x8 (by omega),x8 (by omega),x8 (by omega),x8 (by omega)⟩
 by_cases k3:i.a0=3
 ·simp [k3,m9] at h;exact ⟨x8 (by omega),x8 (by omega),x8 (by omega),x8 (by omega)⟩
 by_cases k4:i.a0=4
 ·simp [k4,m9] at h;exact ⟨x8 (by omega),x8 (by omega),x8 (by omega),x8 (by omega)⟩
 by_cases k5:i.a0=5
 ·simp [k5,m9] at h;exact ⟨x8 (by omega),x8 (by omega),x8 (by omega),x8 (by omega)⟩
 by_cases k6:i.a0=6
 ·simp [k6,m9] at h;exact ⟨x8 (by omega),x8 (by omega),x8 (by omega),x8 (by omega)⟩
 by_cases k7:i.a0=7
 ·simp [k7] at h;exact ⟨x8 (by omega),x8 (by omega),x8 (by omega),x8 (by omega)⟩
 ·simp [k1,k2,k3,k4,k5,k6,k7] at h
theorem b8v{l:List m5}(h:z9 l=true):z0 32 a7t l:=by
 obtain ⟨h1,h2⟩:=c2o h;exact a0o (by omega) fun i hi=>d0a (h2 i hi)
theorem U7.phase{n:j6}(h:U7 n):0<=n.a9/\n.a9<=3:=by
 rcases h with h|h|h|h<;>omega
theorem U7.bal{n:j6}(h:U7 n):0<=n.a5/\n.a5<=3000:=by
 rcases h with h|h|h|h
 ·omega
 all_goals exact ⟨by have:=h.2.1.b1;omega,h.2.1.b2⟩
theorem U7.best{n:j6}(h:U7 n):n.f0.length<=40/\∀v∈n.f0,VI v:=by
 rcases h with h|h|h|h
 ·rw [h.2.2.2.1];exact ⟨by simp,by simp⟩
 all_goals exact ⟨h.2.1.bl,h.2.1.bs⟩
theorem U7.from3{n:j6}(h:U7 n):n.b7.length<=3/\n.a8.length<=3/\I7 n.c9:=by
 rcases h with h|h|h|h
 ·rw [h.2.2.1,h.2.2.2.2.2,h.2.2.2.2.1];exact ⟨by simp,by simp,a2R⟩
 ·rw [h.2.2.2.2.2,h.2.2.2.2.1];exact ⟨by omega,by simp,a2R⟩
 ·rw [h.2.2.1,h.2.2.2.1,h.2.2.2.2];exact ⟨by simp,by simp,a2R⟩
 ·rw [h.2.2.1];exact ⟨by simp,by omega,a5z h.2.2.2.1⟩
theorem NI.ok{n:j6}(h:NI n):a10 n:=by
 have hf:=h.ld.from3;have hb:=h.ld.best;have hw:I7 n.b8/\z0 32 a7t n.i6:=by
  rcases h.wt with q|q
  ·exact ⟨a5z q.2.2.1,b8v q.2.1⟩
  ·rw [q.2.1,q.2.2];exact ⟨a2R,a1m⟩
 have hph:=h.ld.phase;have hbl:=h.ld.bal;have h1:=h.id;have h2:=h.pr;have h3:=h.sq;have h4:=h.vl;have h5:=h.kl;have h6:=h.ql;exact ⟨x8 (by omega),⟨x8 (by omega),a6B (by omega) fun v hv=>(h.vs v hv).1⟩,c1A (by omega) h.ks,x8 (by omega),x8 (by omega),x8 (by omega),
  a0o (by omega) (fun _ _=>trivial),a6B (by omega) hb.2,hf.2.2,a0o (by omega) (fun _ _=>trivial),hw.2,hw.1,c1A (by omega) fun e he=>(h.qs e he).1⟩
theorem NI.list{n:j6}(h:NI n):G6 n.a6=true:=by
 unfold G6;simp only [d82,decide_eq_true_eq,d86];exact ⟨h.kl,h.ks⟩
def N6(m:l8):Prop:=
 ((m.a0=1\/m.a0=4)/\(1<=m.a5/\m.a5<=3000)/\m.d7=zE/\m.a8=[])\/
 (m.a0=2/\(1<=m.a5/\m.a5<=3000)/\m.d7=zE/\(m.a8.length<=40/\∀v∈m.a8,VI v)/\m.c8+m.a8.length<=40)\/
 (m.a0=3/\(1<=m.a5/\m.a5<=3000)/\m.c8<40/\s9 m.d7=true/\m.a8=[])\/
 (m.a0=5/\m.a5=0/\m.c8<40/\s9 m.d7=true/\m.a8=[])\/
 (m.a0=6/\(1<=m.a5/\m.a5<=3000)/\m.c8=0/\m.d7=zE/\m.a8=[])\/
 (m.a0=7/\m.a5=0/\m.c8=0/\s9 m.d7=true/\m.d7.i7=false/\m.a8=[])\/
 (m.a0=8/\m.a5=0/\m.d7=zE/\m.a8=[])
structure MI(m:l8):Prop where
 fr:0<=m.b7/\m.b7<=2
 to:0<=m.To/\m.To<=2
 ne:m.b7≠m.To
 sl:0<=m.c8/\m.c8<=40
 kd:N6 m
theorem c6d{m:l8}:J7 m=true↔MI m:=by
 have hk:(0<=m.c8/\m.c8<=40)->(a35 m=true↔N6 m):=by
  intro hs;have hw:G8 m.a8=true->l9 (m.c8+(m.a8.length:Int))=m.c8+(m.a8.length:Int):=by
   intro hv;have:=(a5a.1 hv).1;exact B4 (by omega) (by omega)
  unfold a35 N6;simp only [Bool.cond_eq_ite];by_cases k1:m.a0=1
  ·simp [k1,C7,a20]
  by_cases k4:m.a0=4
  ·simp [k4,C7,a20]
  by_cases k2:m.a0=2
  ·simp only [k2,C7,a20,beq_self_eq_true,if_true,d82,decide_eq_true_eq];simp only [show ((2:Int)==1)=false from rfl,show ((2:Int)==4)=false from rfl,d94,if_false,d82,C7,a20,decide_eq_true_eq];constructor
   ·rintro ⟨a,b,c,d⟩
    rw [hw c] at d;exact .inr (.inl ⟨trivial,a,b,a5a.1 c,d⟩)
   ·rintro (h|h|h|h|h|h|h)
    ·omega
    ·have c:=a5a.2 h.2.2.2.1;exact ⟨h.2.1,h.2.2.1,c,by rw [hw c];exact h.2.2.2.2⟩
    all_goals exact absurd h.1 (by omega)
  by_cases k3:m.a0=3
  ·simp [k3,C7]
  by_cases k5:m.a0=5
  ·simp [k5]
  by_cases k6:m.a0=6
  ·simp [k6,C7,a20]
  by_cases k7:m.a0=7
  ·simp [k7]
  by_cases k8:m.a0=8
  ·simp [k8,a20]
  ·simp [k1,k2,k3,k4,k5,k6,k7,k8]
 unfold J7;simp only [d82,C7,d9R,beq_eq_false_iff_ne];constructor
 ·rintro ⟨a,b,c,d,e⟩;exact ⟨a,b,c,d,(hk d).1 e⟩
 ·intro h;exact ⟨h.fr,h.to,h.ne,h.sl,(hk h.sl).2 h.kd⟩
theorem MI.ok{m:l8}(h:MI m):a4I m:=by
 have hf:=h.fr;have ht:=h.to;have hs:=h.sl;have hk:F4 m.a0/\F4 m.a5/\I7 m.d7/\z0 96 a0k m.a8:=by
  rcases h.kd with q|q|q|q|q|q|q
  ·rw [q.2.2.1,q.2.2.2];exact ⟨x8 (by omega),x8 (by omega),a2R,a1m⟩
  ·rw [q.2.2.1];exact ⟨x8 (by omega),x8 (by omega),a2R,a6B (by omega) q.2.2.2.1.2⟩
  ·rw [q.2.2.2.2];exact ⟨x8 (by omega),x8 (by omega),a5z q.2.2.2.1,a1m⟩
  ·rw [q.2.2.2.2];exact ⟨x8 (by omega),x8 (by omega),a5z q.2.2.2.1,a1m⟩
  ·rw [q.2.2.2.2,q.2.2.2.1];exact ⟨x8 (by omega),x8 (by omega),a2R,a1m⟩
  ·rw [q.2.2.2.2.2];exact ⟨x8 (by omega),x8 (by omega),a5z q.2.2.2.1,a1m⟩
  ·rw [q.2.2.1,q.2.2.2];exact ⟨x8 (by omega),x8 (by omega),a2R,a1m⟩
 exact ⟨hk.1,x8 (by omega),x8 (by omega),hk.2.1,x8 (by omega),hk.2.2.1,hk.2.2.2⟩
structure WI(w:j8):Prop where
 nl:w.c6.length=3
 ns:∀(i:Nat) (n:j6),w.c6[i]?=some n->n.Id=(i:Int)/\NI n
 ml:w.g8.length<=40
 ms:∀m∈w.g8,MI m
 al:w.g9.length<=60
 aq:∀a∈w.g9,T2 a=true
 tl:w.Told.length<=60
 ts:∀t∈w.Told,N1 t=true
theorem b4P{w:j8}:N8 w=true↔WI w:=by
 unfold N8;simp only [d82,beq_iff_eq,decide_eq_true_eq,d86,d9Z,c6d];constructor
 ·rintro ⟨h1,h2,h3,h4,h5,h6,h7,h8⟩
  refine ⟨by omega,?_,by omega,h6,by omega,h7,by omega,h8⟩;intro i n hn;have hi:=(d83.1 hn).1;have:=h5 i hi;unfold a1X at this;rw [hn] at this;simp only [d82,beq_iff_eq,a2O] at this;exact this
 ·intro h;have h2:=h.ml;have h3:=h.al;have h4:=h.tl;refine ⟨by have:=h.nl;omega,by omega,by omega,by omega,?_,h.ms,h.aq,h.ts⟩;intro i hi;unfold a1X;rw [d8Z hi];simp only [d82,beq_iff_eq,a2O];exact h.ns i _ (d8Z hi)
theorem c8G{a:D4}(h:T2 a=true):c4e a:=by
 unfold T2 at h;simp only [d82,C7] at h;exact ⟨⟨x8 (by omega),x8 (by omega)⟩,b8v h.2⟩
theorem c6y{t:r9}(h:N1 t=true):c0a t:=by
 unfold N1 at h;simp only [d82,C7] at h;exact ⟨x8 (by omega),⟨x8 (by omega),x8 (by omega)⟩,x8 (by omega),x8 (by omega)⟩
theorem WI.ok{w:j8}(h:WI w):a9S w:=by
 have h1:=h.nl;have h2:=h.ml;have h3:=h.al;have h4:=h.tl;refine ⟨a0o (by omega) ?_,a0o (by omega) fun m hm=>(h.ms m hm).ok,a0o (by omega) fun a ha=>c8G (h.aq a ha),a0o (by omega) fun t ht=>c6y (h.ts t ht)⟩;intro n hn;obtain ⟨i,hi⟩:=e0q hn;exact (h.ns i n hi).2.ok
theorem d2A(n:j6)(b:Int):(H4 n b).Acc=n.Acc:=by
 unfold H4;cases n.a9 != 0&&decide (b>n.a5)<;>rfl
theorem a2W{a x:v6}{b:Int}(h:C3 a b=some x):x=⟨b,a.a8⟩/\1<=b/\b<=3000/\a.d9<=b:=by
 unfold C3 a8m at h;cases hq:m9 b 1 3000&&decide (a.d9<=b)
 ·rw [hq] at h;cases h
 ·rw [hq] at h;simp only [d82,C7,decide_eq_true_eq] at hq;injection h with h;exact ⟨h.symm,hq.1.1,hq.1.2,hq.2⟩
theorem c3I{α:Type}(l:List α)(k:Nat):(l.drop k).take (l.length-k)=l.drop k:=by
 rw [d9w];simp
theorem c6g{l:List Bool}(h:l.length<=3):s6 l:=by unfold s6;omega
theorem a16(id:Int)(m:l8):(C2 id m).length<=3:=by
 unfold C2;rw [d9g];exact List.length_filter_le _ _
theorem a80(n:j6):(E2 n).2.length<=3:=by
 unfold E2 a1o;cases n.a9 != 2||decide (40<=n.a6.length)
 ·simp only [e0P];cases R5 n with
  | mk x o=>
   cases o with
   | none=>simp
   | some e=>
    simp only;cases D7 x.Acc x.a5 (x.a6.length:Int) e with
    | none=>simp
    | some a=>exact a16 _ _
 ·simp
theorem c2K{n:j6}(m:l8){k:Nat}(hk:k<n.a6.length):V9 n m k=[G7 m ⟨5,0,0,0,(k:Int),n.a6[k],[]⟩]:=by
 unfold V9;rw [d8Z hk]
theorem b0Y{a x:v6}{b s:Int}{e:l7}(h:D7 a b s e=some x):∃k:Nat,s=(k:Int)/\k<40/\s9 e=true/\1<=b/\b<=3000/\a.d9<=b/\x=⟨b,(N2 a.a8 (k+1)).set k ⟨b,e⟩⟩:=by
 unfold D7 at h;cases hq:m9 s 0 39&&s9 e
 ·rw [hq] at h;cases h
 ·rw [hq,e0O] at h;simp only [d82,C7] at hq;cases hp:C3 a b with
  | none=>rw [hp] at h;cases h
  | some y=>
   rw [hp] at h;obtain ⟨rfl,h1,h2,h3⟩:=a2W hp;injection h with h;refine ⟨s.toNat,by omega,by omega,hq.2,h1,h2,h3,h.symm⟩
theorem b6z{a:v6}{b:Int}(h1:1<=b)(h2:b<=3000)(h3:a.d9<=b):C3 a b=some ⟨b,a.a8⟩:=by
 unfold C3 a8m;rw [C7.2 ⟨h1,h2⟩,show decide (a.d9<=b)=true by simpa using h3];rfl
theorem c8K{a:v6}{b:Int}{k:Nat}{e:l7}(hk:k<40)(he:s9 e=true)(h1:1<=b)(h2:b<=3000)(h3:a.d9<=b):D7 a b (k:Int) e=some ⟨b,(N2 a.a8 (k+1)).set k ⟨b,e⟩⟩:=by
 unfold D7;rw [C7.2 (show 0<=(k:Int)/\(k:Int)<=39 by omega),he,b6z h1 h2 h3];rfl
theorem b54{vs:List n7}{n:Nat}{v:n7}(h:v∈N2 vs n):v∈vs\/v=v0:=by
 rcases d80.1 h with q|q
 ·exact .inl q
 ·exact .inr (d9P.1 q).2
theorem c0A{α:Type}{l:List α}{k:Nat}{x v:α}(h:v∈l.set k x):v∈l\/v=x:=d9r h
theorem NI.queue{n:j6}(h:NI n){q:List l7}(hl:q.length<=4)(hm:∀e∈q,s9 e=true/\e.i7=false):NI {n with d8:=q}:=
 ⟨h.id,h.pr,h.vl,h.vs,h.kl,h.ks,h.sq,hl,hm,h.ld,h.wt⟩
theorem NI.down{n:j6}(h:NI n):NI (a15 n):=
 ⟨h.id,h.pr,h.vl,h.vs,h.kl,h.ks,h.sq,h.ql,h.qs,.inl ⟨rfl,rfl,rfl,rfl,rfl,rfl⟩,h.wt⟩
theorem NI.freeN{n:j6}(h:NI n):NI (a6w n):=
 ⟨h.id,h.pr,h.vl,h.vs,h.kl,h.ks,h.sq,h.ql,h.qs,h.ld,.inr ⟨rfl,rfl,rfl⟩⟩
theorem NI.acc{n:j6}(h:NI n){a:v6}(h1:0<=a.d9/\a.d9<=3000)(h2:a.a8.length<=40)(h3:∀v∈a.a8,VI v/\v.a5<=a.d9)(h4:n.Acc.d9<=a.d9):NI {n with Acc:=a}:=by
 have ho:Own n->Own {n with Acc:=a}:=fun o=>⟨o.b1,o.b2,o.mod,d9I o.pr h4,o.bl,o.bs⟩
 refine ⟨h.id,h1,h2,h3,h.kl,h.ks,h.sq,h.ql,h.qs,?_,h.wt⟩;rcases h.ld with q|q|q|q
 ·exact .inl q
 ·exact .inr (.inl ⟨q.1,ho q.2.1,q.2.2⟩)
 ·exact .inr (.inr (.inl ⟨q.1,ho q.2.1,q.2.2⟩))
 ·exact .inr (.inr (.inr ⟨q.1,ho q.2.1,q.2.2⟩))
theorem NI.promise{n:j6}(h:NI n){b:Int}{x:v6}(hp:C3 n.Acc b=some x):NI {n with Acc:=x}:=by
 obtain ⟨rfl,h1,h2,h3⟩:=a2W hp;exact h.acc ⟨by simp only;omega,h2⟩ h.vl (fun v hv=>⟨(h.vs v hv).1,d9I (h.vs v hv).2 h3⟩) h3
theorem d7o{vs:List n7}{p b:Int}{k:Nat}{e:l7}(hk:k<40)(hl:vs.length<=40)(hv:∀v∈vs,VI v/\v.a5<=p)(he:s9 e=true)(h1:1<=b)(h2:b<=3000)(h3:p<=b) :
  ((N2 vs (k+1)).set k ⟨b,e⟩).length<=40/\∀v∈(N2 vs (k+1)).set k ⟨b,e⟩,VI v/\v.a5<=b:=by
 refine ⟨by rw [d9A,b4D];omega,fun v hm => ?_⟩;rcases c0A hm with q|q
 ·rcases b54 q with q|q
  ·exact ⟨(hv v q).1,d9I (hv v q).2 h3⟩
  ·rw [q];exact ⟨.inl rfl,by show (0:Int)<=b;omega⟩
 ·rw [q];exact ⟨.inr ⟨h1,h2,he⟩,d9p _⟩
theorem NI.cast{n:j6}(h:NI n){b s:Int}{e:l7}{x:v6}(hc:D7 n.Acc b s e=some x):NI {n with Acc:=x}:=by
 obtain ⟨k,rfl,hk,he,h1,h2,h3,rfl⟩:=b0Y hc;obtain ⟨a,b'⟩:=d7o hk h.vl h.vs he h1 h2 h3;exact h.acc ⟨by simp only;omega,h2⟩ a b' h3
theorem NI.yield{n:j6}(h:NI n)(b:Int):NI (H4 n b):=by
 unfold H4;cases n.a9 != 0&&decide (b>n.a5)
 ·exact h
 ·exact h.down
theorem b4b{id:Int}(h:0<=id/\id<=2):(W7 id).length=3/\(W7 id)[id.toNat]?=some true:=by
 unfold W7;refine ⟨by simp,?_⟩;rw [d99 (by simp;omega)]
theorem a0C.right{n:j6}(h:NI n){e:l7}(hn:a0C n e):s9 e=true:=by
 cases hn with
 | best v hv hb=>exact (h.ld.best.2 v (d9a hv)).pos hb
 | gap=>rfl
 | want hb=>
  rcases h.wt with q|q
  ·exact q.2.2.1
  ·rw [hb] at q;cases q.1
 | queue e hq=>exact (h.qs e hq).1
theorem a1M{id:Int}{m x:l8}(hid:0<=id/\id<=2)(h:x∈C2 id m):∃t:Int,0<=t/\t<=2/\t≠id/\x={m with b7:=id,To:=t}:=by
 unfold C2 at h;obtain ⟨t,ht,rfl⟩:=d9l.1 h;obtain ⟨h1,h2⟩:=d9V.1 ht;refine ⟨t,?_,?_,by simpa using h2,rfl⟩;all_goals simp at h1;omega
theorem a3X{id:Int}{m:l8}(hid:0<=id/\id<=2)(hk:N6 m)(hs:0<=m.c8/\m.c8<=40):∀x∈C2 id m,MI x:=by
 intro x hx;obtain ⟨t,h1,h2,h3,rfl⟩:=a1M hid hx;exact ⟨hid,⟨h1,h2⟩,fun q=>h3 q.symm,hs,hk⟩
theorem a52{m o:l8}(hm:MI m)(hk:N6 o)(hs:0<=o.c8/\o.c8<=40):MI (G7 m o):=⟨hm.to,hm.fr,fun q=>hm.ne q.symm,hs,hk⟩
theorem N6.one{k b s:Int}(hk:k=1\/k=4)(hb:1<=b/\b<=3000):N6 ⟨k,0,0,b,s,zE,[]⟩:=.inl ⟨hk,hb,rfl,rfl⟩
theorem N6.accept{b s:Int}{e:l7}(hb:1<=b/\b<=3000)(hs:s<40)(he:s9 e=true):N6 ⟨3,0,0,b,s,e,[]⟩:=.inr (.inr (.inl ⟨rfl,hb,hs,he,rfl⟩))
theorem N6.chosen{s:Int}{e:l7}(hs:s<40)(he:s9 e=true):N6 ⟨5,0,0,0,s,e,[]⟩:=.inr (.inr (.inr (.inl ⟨rfl,rfl,hs,he,rfl⟩)))
theorem N6.refuse{b:Int}(hb:1<=b/\b<=3000):N6 ⟨6,0,0,b,0,zE,[]⟩:=.inr (.inr (.inr (.inr (.inl ⟨rfl,hb,rfl,rfl,rfl⟩))))
theorem N6.ask{e:l7}(he:s9 e=true)(hn:e.i7=false):N6 ⟨7,0,0,0,0,e,[]⟩:=.inr (.inr (.inr (.inr (.inr (.inl ⟨rfl,rfl,rfl,he,hn,rfl⟩)))))
theorem N6.need{s:Int}:N6 ⟨8,0,0,0,s,zE,[]⟩:=.inr (.inr (.inr (.inr (.inr (.inr ⟨rfl,rfl,rfl,rfl⟩)))))
structure L7(n:j6)(x:j6×List l8):Prop where
 ni:NI x.1
 id:x.1.Id=n.Id
 ms:∀m∈x.2,MI m
theorem L7.same{n:j6}(h:NI n):L7 n (n,[]):=⟨h,rfl,by simp⟩
theorem L7.to{n n':j6}(hi:n'.Id=n.Id){x:j6×List l8}(h:L7 n' x):L7 n x:=⟨h.ni,h.id.trans hi,h.ms⟩
theorem a7a{n:j6}(h:NI n):L7 n (E2 n):=by
 unfold E2;cases hc:n.a9 != 2||decide (40<=n.a6.length)
 ·simp only [e0P];simp only [d9O,bne_eq_false_iff_eq,decide_eq_false_iff_not] at hc;obtain ⟨q,hq,hql,hqm,hqe⟩:=a6r n;cases hx:R5 n with
  | mk x o=>
  rw [hx] at hq hqe;have hq:x={n with d8:=q}:=hq;have hn:NI {n with d8:=q}:=h.queue (by have:=h.ql;omega) fun e he=>h.qs e (hqm e he)
  subst hq;cases o with
  | none=>exact ⟨hn,rfl,by simp⟩
  | some e=>
   have he:=(hqe e rfl).right h;simp only [a1o];have ho:Own n:=by
    rcases h.ld with q|q|q|q
    ·omega
    ·omega
    ·exact q.2.1
    ·omega
   cases hcs:D7 n.Acc n.a5 (n.a6.length:Int) e with
   | none=>exact ⟨hn.down,rfl,by simp⟩
   | some a=>
    have hac:=hn.cast (b:=n.a5) (s:=(n.a6.length:Int)) (e:=e) hcs;obtain ⟨k,hk,hk40,_,h1,h2,h3,rfl⟩:=b0Y hcs;refine ⟨⟨h.id,hac.pr,hac.vl,hac.vs,h.kl,h.ks,h.sq,hn.ql,hn.qs,?_,h.wt⟩,rfl,a3X h.id (.accept ⟨h1,h2⟩ (by omega) he) (by simp only;omega)⟩;refine .inr (.inr (.inr ⟨rfl,⟨ho.b1,ho.b2,ho.mod,d9p _,ho.bl,ho.bs⟩,?_,he,(b4b h.id).1,(b4b h.id).2,by simp only;omega⟩));rcases h.ld with q|q|q|q
    ·omega
    ·omega
    ·exact q.2.2.1
    ·omega
 ·exact .same h
theorem NI.know{n:j6}(h:NI n){e:l7}(he:s9 e=true)(hl:n.a6.length<40):NI (A9 n e):=by
 have hks:∀x∈n.a6++[e],s9 x=true:=by
  intro x hx;rcases d80.1 hx with q|q
  ·exact h.ks x q
  ·rw [d84.1 q];exact he
 have hkl:(n.a6++[e]).length<=40:=by simp;omega
 unfold A9;by_cases p3:n.a9=3
 ·rw [show (n.a9==3)=true by simpa using p3];refine ⟨h.id,h.pr,h.vl,h.vs,hkl,hks,h.sq,h.ql,h.qs,?_,h.wt⟩;rcases h.ld with q|q|q|q
  ·omega
  ·omega
  ·omega
  ·exact .inr (.inr (.inl ⟨rfl,⟨q.2.1.b1,q.2.1.b2,q.2.1.mod,q.2.1.pr,q.2.1.bl,q.2.1.bs⟩,q.2.2.1,rfl,rfl⟩))
 ·rw [show (n.a9==3)=false by simpa using p3];refine ⟨h.id,h.pr,h.vl,h.vs,hkl,hks,h.sq,h.ql,h.qs,?_,h.wt⟩;rcases h.ld with q|q|q|q
  ·exact .inl q
  ·exact .inr (.inl ⟨q.1,⟨q.2.1.b1,q.2.1.b2,q.2.1.mod,q.2.1.pr,q.2.1.bl,q.2.1.bs⟩,q.2.2⟩)
  ·exact .inr (.inr (.inl ⟨q.1,⟨q.2.1.b1,q.2.1.b2,q.2.1.mod,q.2.1.pr,q.2.1.bl,q.2.1.bs⟩,q.2.2⟩))
  ·exact absurd q.1 p3
theorem d0z{s:u0}{e:l7}(hn:e.i7=false):0<=(apply s e).2/\(apply s e).2<=4:=by
 have hf:0<=(W0 s e).2/\(W0 s e).2<=4:=by
  unfold W0;cases a2a s.i0 e.d6
  ·exact ⟨by simp,by simp⟩
  ·cases e.d6.Code==0<;>exact ⟨by simp,by simp⟩
 unfold apply;rw [hn];simp only [e0P];cases s.i5.find? fun d=>d.a7.b9==e.a7.b9 with
 | none=>exact hf
 | some d=>
  simp only;cases d.a7.Seq==e.a7.Seq
  ·cases decide (d.a7.Seq>e.a7.Seq)
   ·exact hf
   ·exact ⟨by simp,by simp⟩
  ·exact ⟨by simp,by simp⟩
theorem a6j{l:List l7}{q:p9}{k:Nat}(h:l.findIdx? (E8 q)=some k):∃hk:k<l.length,l[k].i7=false/\l[k].a7=q:=by
 rw [d98] at h;obtain ⟨hk,h1,_⟩:=h;unfold E8 at h1;simp only [d82,d9R] at h1;exact ⟨hk,h1.1,b6f.1 h1.2⟩
theorem b0s{l:List l7}(h:G6 l=true){k:Nat}(hk:k<l.length):P7 l k=(apply (u5 (l.take k)).1 l[k]).2:=by
 obtain ⟨a,b⟩:=a6R h;unfold P7;rw [c6J a b hk];rfl
theorem c6r{l:List l7}(h:∀e∈l,s9 e=true)(q:p9):-1000000<=X0 l q/\X0 l q<=1000000:=by
 unfold X0;cases hf:l.findIdx? (E8 q) with
 | none=>exact ⟨by simp,by simp⟩
 | some k=>
  obtain ⟨hk,h1,h2⟩:=a6j hf;simp only [d8Z hk];exact (a7S (a4n (h _ (d85 hk)) h1).2.2.1).2.1
theorem d1d{n:j6}(h:NI n):NI (M9 n).1/\∀t∈(M9 n).2,N1 t=true:=by
 rcases a8P n with q|⟨k,hb,hk,q⟩<;>rw [q]
 ·exact ⟨h,by simp⟩
 ·refine ⟨h.freeN,fun t ht => ?_⟩;obtain ⟨hkl,h1,h2⟩:=a6j hk;have ht:=d84.1 ht;subst ht;have hw:n.b8.a7=⟨n.Id,n.Seq⟩/\s9 n.b8=true/\n.b8.i7=false:=by
   rcases h.wt with q|q
   ·exact ⟨q.2.2.2.2,q.2.2.1,q.2.2.2.1⟩
   ·rw [hb] at q;cases q.1
  obtain ⟨w1,w2,_⟩:=a4n hw.2.1 hw.2.2;have hc:=d0z (s:=(u5 (n.a6.take k)).1) h1;rw [<-b0s h.list hkl] at hc;have hv:=c6r h.ks n.b8.a7;unfold N1;simp only [d82,C7,beq_iff_eq];refine ⟨h.id,⟨w1,w2⟩,by rw [hw.1],hc,?_⟩;cases P7 n.a6 k==0
  ·exact ⟨by simp,by simp⟩
  ·exact hv
structure a3R(n:j6)(x:j6×List l8×List r9):Prop where
 ni:NI x.1
 id:x.1.Id=n.Id
 ms:∀m∈x.2.1,MI m
 ts:∀t∈x.2.2,N1 t=true
theorem L7.three{n:j6}{x:j6×List l8}(h:L7 n x):a3R n (x.1,x.2,[]):=⟨h.ni,h.id,h.ms,by simp⟩
theorem a3R.same{n:j6}(h:NI n):a3R n (n,[],[]):=⟨h,rfl,by simp,by simp⟩
theorem b8Y{n:j6}(h:NI n){e:l7}(he:s9 e=true)(hl:n.a6.length<40):a3R n (Q1 n e):=by
 have h1:=h.know he hl;obtain ⟨h2,h3⟩:=d1d h1;have h4:=a7a h2;exact ⟨h4.ni,h4.id.trans ((d3C _).trans (b7n _ _)),h4.ms,h3⟩
theorem d2e{a:v6}{b:Int}(h:C3 a b=none)(hb:1<=b/\b<=3000):b<a.d9:=by
 by_cases q:a.d9<=b
 ·rw [b6z hb.1 hb.2 q] at h;cases h
 ·omega
theorem c5B{n:j6}(h:NI n){m:l8}(hm:MI m)(hk:m.a0=1):L7 n (U9 n m):=by
 have hb:1<=m.a5/\m.a5<=3000:=by
  rcases hm.kd with q|q|q|q|q|q|q
  ·exact q.2.1
  all_goals exact absurd q.1 (by omega)
 have hs:=hm.sl;unfold U9;cases hp:C3 n.Acc m.a5 with
 | none=>
  have:=d2e hp hb;refine ⟨h,rfl,fun x hx => ?_⟩;rw [d84.1 hx];exact a52 hm (.refuse (by have:=h.pr;omega)) (by simp)
 | some a=>
  have hn:=(h.promise hp).yield m.a5;obtain ⟨rfl,_⟩:=a2W hp;refine ⟨hn,?_,fun x hx => ?_⟩
  ·simp only [H4];cases n.a9 != 0&&decide (m.a5>n.a5)<;>rfl
  ·rw [d84.1 hx];have hvl:=h.vl;refine a52 hm (.inr (.inl ⟨rfl,hb,rfl,⟨by simp;omega,fun v hv=>(h.vs v (d9N hv)).1⟩,by simp;omega⟩)) hs
theorem a3w(n:j6)(b:Int):(H4 n b).Id=n.Id:=by
 unfold H4;cases n.a9 != 0&&decide (b>n.a5)<;>rfl
theorem c7X{a:v6}{b:Int}{k:Nat}{e:l7}(h:D7 a b (k:Int) e=none)(hk:k<40)(he:s9 e=true)(hb:1<=b/\b<=3000):b<a.d9:=by
 by_cases q:a.d9<=b
 ·rw [c8K hk he hb.1 hb.2 q] at h;cases h
 ·omega
theorem c04{n:j6}(h:NI n){m:l8}(hm:MI m)(hk:m.a0=3):L7 n (U2 n m):=by
 have hb:(1<=m.a5/\m.a5<=3000)/\m.c8<40/\s9 m.d7=true:=by
  rcases hm.kd with q|q|q|q|q|q|q
  ·omega
  ·omega
  ·exact ⟨q.2.1,q.2.2.1,q.2.2.2.1⟩
  all_goals exact absurd q.1 (by omega)
 have hs:=hm.sl;obtain ⟨k,hsk⟩:∃k:Nat,m.c8=(k:Int):=⟨m.c8.toNat,by omega⟩
 unfold U2;cases hp:D7 n.Acc m.a5 m.c8 m.d7 with
 | none=>
  rw [hsk] at hp;have:=c7X hp (by omega) hb.2.2 hb.1;refine ⟨h,rfl,fun x hx => ?_⟩;rw [d84.1 hx];exact a52 hm (.refuse (by have:=h.pr;omega)) (by simp)
 | some a=>
  refine ⟨(h.cast hp).yield m.a5,a3w _ _,fun x hx => ?_⟩;rw [d84.1 hx];exact a52 hm (.one (.inr rfl) hb.1) hs
theorem b7t{n:j6}(h:NI n){m:l8}(hm:MI m)(hk:m.a0=2):L7 n (U3 n m):=by
 have hkd:(m.a8.length<=40/\∀v∈m.a8,VI v)/\m.c8+m.a8.length<=40:=by
  rcases hm.kd with q|q|q|q|q|q|q
  ·omega
  ·exact ⟨q.2.2.2.1,q.2.2.2.2⟩
  all_goals exact absurd q.1 (by omega)
 have hs:=hm.sl;have hf:=hm.fr;unfold U3;cases hc:n.a9 != 1||m.a5 != n.a5
 ·simp only [d9O,bne_eq_false_iff_eq] at hc;simp only [e0P];have hl:Own n/\n.b7.length=3/\n.b7[n.Id.toNat]?=some true/\n.c9=zE/\n.a8=[]:=by
   rcases h.ld with q|q|q|q
   ·omega
   ·exact q.2
   all_goals exact absurd q.1 (by omega)
  have hbl:=a85 n.f0 (d81 m.c8.toNat v0++m.a8);have hob:=hl.1.bl;have hlen:(d81 m.c8.toNat v0++m.a8).length<=40:=by simp;omega
  have hbs:∀v∈B2 n.f0 (d81 m.c8.toNat v0++m.a8),VI v:=fun v hv=>(a6v hv).elim (fun q=>hl.1.bs v q) (fun q=>(d80.1 q).elim (fun q=>by rw [(d9P.1 q).2];exact .inl rfl) (hkd.1.2 v))
  cases F7 (n.b7.set m.b7.toNat true)
  ·simp only [e0P];refine ⟨⟨h.id,h.pr,h.vl,h.vs,h.kl,h.ks,h.sq,h.ql,h.qs,.inr (.inl ⟨hc.1,⟨hl.1.b1,hl.1.b2,hl.1.mod,hl.1.pr,by show (B2 _ _).length<=40;omega,hbs⟩,by simp [hl.2.1],?_,hl.2.2.2.1,hl.2.2.2.2⟩),h.wt⟩,rfl,by simp⟩;show (n.b7.set m.b7.toNat true)[n.Id.toNat]?=some true
   by_cases q:m.b7.toNat=n.Id.toNat
   ·rw [q,d99 (by have:=h.id;omega)]
   ·rw [d9h q];exact hl.2.2.1
  ·simp only [e0O];refine L7.to (n:=n) (n':={n with b7:=[],f0:=B2 n.f0 (d81 m.c8.toNat v0++m.a8),a9:=2}) rfl (a7a ?_);exact ⟨h.id,h.pr,h.vl,h.vs,h.kl,h.ks,h.sq,h.ql,h.qs,.inr (.inr (.inl ⟨rfl,⟨hl.1.b1,hl.1.b2,hl.1.mod,hl.1.pr,by show (B2 _ _).length<=40;omega,hbs⟩,rfl,hl.2.2.2.1,hl.2.2.2.2⟩)),h.wt⟩
 ·exact .same h
theorem c0Z{n:j6}(h:NI n){m:l8}(hm:MI m):a3R n (a0l n m):=by
 have hf:=hm.fr;unfold a0l;cases hc:n.a9 != 3||(m.a5 != n.a5||m.c8 != (n.a6.length:Int))
 ·simp only [d9O,bne_eq_false_iff_eq] at hc;simp only [e0P];have hl:Own n/\n.b7=[]/\s9 n.c9=true/\n.a8.length=3/\n.a8[n.Id.toNat]?=some true/\n.a6.length<40:=by
   rcases h.ld with q|q|q|q
   ·omega
   ·omega
   ·omega
   ·exact q.2
  have hn:NI {n with a8:=n.a8.set m.b7.toNat true}:=by
   refine ⟨h.id,h.pr,h.vl,h.vs,h.kl,h.ks,h.sq,h.ql,h.qs,.inr (.inr (.inr ⟨hc.1,⟨hl.1.b1,hl.1.b2,hl.1.mod,hl.1.pr,hl.1.bl,hl.1.bs⟩,hl.2.1,hl.2.2.1,by simp [hl.2.2.2.1],?_,hl.2.2.2.2.2⟩)),h.wt⟩;show (n.a8.set m.b7.toNat true)[n.Id.toNat]?=some true
   by_cases q:m.b7.toNat=n.Id.toNat
   ·rw [q,d99 (by have:=h.id;omega)]
   ·rw [d9h q];exact hl.2.2.2.2.1
  cases F7 (n.a8.set m.b7.toNat true)
  ·exact ⟨hn,rfl,by simp,by simp⟩
  ·simp only [e0O];have hr:=b8Y hn hl.2.2.1 hl.2.2.2.2.2;refine ⟨hr.ni,hr.id,fun x hx => ?_,hr.ts⟩;rcases d80.1 hx with q|q
   ·exact a3X h.id (.chosen (by omega) hl.2.2.1) (by simp only;omega) x q
   ·exact hr.ms x q
 ·exact .same h
theorem c5A{n:j6}(h:NI n){m:l8}(hm:MI m)(hk:m.a0=5):a3R n (Z9 n m):=by
 have hkd:m.c8<40/\s9 m.d7=true:=by
  rcases hm.kd with q|q|q|q|q|q|q
  ·omega
  ·omega
  ·omega
  ·exact ⟨q.2.2.1,q.2.2.2.1⟩
  all_goals exact absurd q.1 (by omega)
 have hkl:=h.kl;unfold Z9;cases h1:decide (m.c8<(n.a6.length:Int))
 ·cases h2:decide (m.c8>(n.a6.length:Int))
  ·simp only [decide_eq_false_iff_not] at h1 h2;exact b8Y h hkd.2 (by omega)
  ·refine ⟨h,rfl,fun x hx => ?_,by simp⟩;rw [d84.1 hx];exact a52 hm .need (by simp only;omega)
 ·exact .same h
theorem c6Z{n:j6}(h:NI n){m:l8}(hm:MI m)(hk:m.a0=7):L7 n (U5 n m):=by
 have hkd:s9 m.d7=true/\m.d7.i7=false:=by
  rcases hm.kd with q|q|q|q|q|q|q
  ·omega
  ·omega
  ·omega
  ·omega
  ·omega
  ·exact ⟨q.2.2.2.1,q.2.2.2.2.1⟩
  ·omega
 unfold U5;cases hc:n.a9==0||(decide (4<=n.d8.length)||E7 n.a6 m.d7.a7)
 ·simp only [e0P];simp only [d9O,decide_eq_false_iff_not] at hc;refine L7.to (n:=n) (n':={n with d8:=n.d8++[m.d7]}) rfl (a7a (h.queue (by simp;omega) ?_));intro e he;rcases d80.1 he with q|q
  ·exact h.qs e q
  ·rw [d84.1 q];exact hkd
 ·exact .same h
theorem c35{n:j6}(h:NI n){m:l8}(hm:MI m):∀x∈a0X n m,MI x:=by
 intro x hx;unfold a0X at hx;obtain ⟨l,hl,hx⟩:=d9M.1 hx;obtain ⟨j,hj,rfl⟩:=d9l.1 hl;have hkl:=h.kl;unfold V9 at hx;cases hg:n.a6[m.c8.toNat+j]? with
 | none=>rw [hg] at hx;cases hx
 | some e=>
  rw [hg] at hx;have hlt:=(d83.1 hg).1;rw [d84.1 hx];exact a52 hm (.chosen (by omega) (h.ks e (d9a hg))) (by simp only;omega)
theorem b1i{n:j6}(h:NI n){m:l8}(hm:MI m):a3R n (L0 n m):=by
 unfold L0;by_cases k1:m.a0=1
 ·rw [show (m.a0==1)=true by simpa using k1];exact (c5B h hm k1).three
 rw [show (m.a0==1)=false by simpa using k1];by_cases k2:m.a0=2
 ·rw [show (m.a0==2)=true by simpa using k2];exact (b7t h hm k2).three
 rw [show (m.a0==2)=false by simpa using k2];by_cases k3:m.a0=3
 ·rw [show (m.a0==3)=true by simpa using k3];exact (c04 h hm k3).three
 rw [show (m.a0==3)=false by simpa using k3];by_cases k4:m.a0=4
 ·rw [show (m.a0==4)=true by simpa using k4];exact c0Z h hm
 rw [show (m.a0==4)=false by simpa using k4];by_cases k5:m.a0=5
 ·rw [show (m.a0==5)=true by simpa using k5];exact c5A h hm k5
 rw [show (m.a0==5)=false by simpa using k5];by_cases k6:m.a0=6
 ·rw [show (m.a0==6)=true by simpa using k6];simp only [e0O,e0P];cases hp:C3 n.Acc m.a5 with
  | none=>exact ⟨h.yield _,a3w _ _,by simp,by simp⟩
  | some a=>exact ⟨(h.promise hp).yield _,a3w _ _,by simp,by simp⟩
 rw [show (m.a0==6)=false by simpa using k6];by_cases k7:m.a0=7
 ·rw [show (m.a0==7)=true by simpa using k7];exact (c6Z h hm k7).three
 rw [show (m.a0==7)=false by simpa using k7];cases m.a0==8
 ·exact .same h
 ·exact ⟨h,rfl,c35 h hm,by simp⟩
structure d4p(n x:j6):Prop where
 id:x.Id=n.Id
 known:x.a6=n.a6
 seq:x.Seq=n.Seq
 busy:x.i4=n.i4
 prog:x.i6=n.i6
 want:x.b8=n.b8
theorem b2o(n:j6):d4p n (E2 n).1:=by
 unfold E2;cases n.a9 != 2||decide (40<=n.a6.length)
 ·simp only [e0P];obtain ⟨q,hq,_⟩:=a6r n;cases hx:R5 n with
  | mk x o=>
  rw [hx] at hq;have hq:x={n with d8:=q}:=hq;subst hq;cases o with
  | none=>exact ⟨rfl,rfl,rfl,rfl,rfl,rfl⟩
  | some e=>
   simp only [a1o];cases D7 n.Acc n.a5 (n.a6.length:Int) e<;>exact ⟨rfl,rfl,rfl,rfl,rfl,rfl⟩
 ·exact ⟨rfl,rfl,rfl,rfl,rfl,rfl⟩
def a0w(n:j6):List m7:=(u5 n.a6).1.i0
theorem b2T{n:j6}(h:NI n):C0 (a0w n)=true:=by
 obtain ⟨a,b⟩:=a6R h.list;have:=(a21 a b n.a6.length (d9B _)).1.boxes;rwa [d9L] at this
theorem d60{l:List m7}{p:List m5}(h:(A6 l p).Code≠3):z9 p=true:=by
 unfold A6 at h;cases hp:z9 p
 ·rw [hp,Bool.and_false] at h;exact absurd rfl h
 ·rfl
def F3(n:j6)(prog:List m5):j6:={n with Seq:=n.Seq+1,i4:=true,i6:=prog,b8:=⟨false,⟨n.Id,n.Seq+1⟩,A6 (a0w n) prog⟩}
def H8(n:j6)(prog:List m5):Bool := !(n.i4||(n.Seq==1000||(A6 (a0w n) prog).Code==3))
theorem b7h{n:j6}{prog:List m5}:H8 n prog=true↔n.i4=false/\n.Seq≠1000/\(A6 (a0w n) prog).Code≠3:=by
 unfold H8;simp
theorem b28{n:j6}(h:NI n){prog:List m5}(hp:s6 prog)(hc:H8 n prog=true):s9 (F3 n prog).b8=true/\z9 prog=true:=by
 obtain ⟨h1,h2,h3⟩:=b7h.1 hc;have hr:=(b5P (b2T h) hp).ok;have hs:=h.sq;have hid:=h.id;refine ⟨?_,d60 h3⟩;unfold s9 F3;simp only [e0P,d82,C7,hr,true_and,bne_iff_ne,ne_eq];exact ⟨⟨hid,by omega⟩,h3⟩
theorem NI.asked{n:j6}(h:NI n){prog:List m5}(hp:s6 prog)(hc:H8 n prog=true):NI (F3 n prog):=by
 obtain ⟨h1,h2,h3⟩:=b7h.1 hc;obtain ⟨h4,h5⟩:=b28 h hp hc;have hs:=h.sq;exact ⟨h.id,h.pr,h.vl,h.vs,h.kl,h.ks,by show 0<=n.Seq+1/\n.Seq+1<=1000;omega,h.ql,h.qs,h.ld,.inl ⟨rfl,h5,h4,rfl,rfl⟩⟩
theorem Y2(n:j6)(prog:List m5):D5 n prog=bif H8 n prog then (bif n.a9==2 then E2 (F3 n prog) else (F3 n prog,bif n.a9==0 then C2 n.Id ⟨7,0,0,0,0,(F3 n prog).b8,[]⟩ else [])) else (n,[]):=by
 unfold D5 H8 F3 a0w;cases n.i4||(n.Seq==1000||(A6 (u5 n.a6).1.i0 prog).Code==3)<;>rfl
theorem a8R{n:j6}(h:NI n){prog:List m5}(hp:s6 prog):L7 n (D5 n prog):=by
 rw [Y2];cases hc:H8 n prog
 ·exact .same h
 ·have hn:=h.asked hp hc;simp only [e0O];cases n.a9==2
  ·refine ⟨hn,rfl,fun x hx => ?_⟩;simp only [e0P] at hx;cases h0:n.a9==0
   ·rw [h0] at hx;cases hx
   ·rw [h0] at hx;exact a3X h.id (.ask (b28 h hp hc).1 rfl) (by simp) x hx
  ·exact L7.to (n:=n) (n':=F3 n prog) rfl (a7a hn)
theorem b4g{b who:Int}(hb:0<=b/\b<=3000)(hw:0<=who/\who<=2):H3 b who=-1\/(b<H3 b who/\H3 b who<=b+3/\H3 b who<=3000/\d9x (H3 b who) 3=who):=by
 unfold H3;cases h1:decide (b+1<=3000)&&(d9x (b+1) 3==who)
 ·cases h2:decide (b+2<=3000)&&(d9x (b+2) 3==who)
  ·cases h3:decide (b+3<=3000)&&(d9x (b+3) 3==who)
   ·exact .inl rfl
   ·simp only [d82,decide_eq_true_eq,beq_iff_eq] at h3;exact .inr ⟨by simp only [e0O,e0P];omega,by simp only [e0O,e0P];omega,h3.1,h3.2⟩
  ·simp only [d82,decide_eq_true_eq,beq_iff_eq] at h2;exact .inr ⟨by simp only [e0O,e0P];omega,by simp only [e0O,e0P];omega,h2.1,h2.2⟩
 ·simp only [d82,decide_eq_true_eq,beq_iff_eq] at h1;exact .inr ⟨by simp only [e0O,e0P];omega,by simp only [e0O,e0P];omega,h1.1,h1.2⟩
theorem a8i{n:j6}(h:NI n):L7 n (M5 n):=by
 unfold M5;cases hd:decide (H3 n.Acc.d9 n.Id<0)
 ·simp only [decide_eq_false_iff_not] at hd;have hpr:=h.pr;have hkl:=h.kl;rcases b4g h.pr h.id with q|⟨q1,q2,q3,q4⟩
  ·omega
  ·obtain ⟨m1,m2⟩:=b4b h.id;refine ⟨⟨h.id,⟨by simp only [e0P];omega,q3⟩,h.vl,fun v hv=>⟨(h.vs v hv).1,d9I (h.vs v hv).2 (Int.le_of_lt q1)⟩,h.kl,h.ks,h.sq,h.ql,h.qs,.inr (.inl ⟨rfl,⟨by simp only [e0P];omega,q3,q4,d9p _,h.vl,fun v hv=>(h.vs v hv).1⟩,m1,m2,rfl,rfl⟩),h.wt⟩,rfl,?_⟩;exact a3X h.id (.one (.inl rfl) ⟨by omega,q3⟩) (by simp only;omega)
 ·exact .same h
theorem a7G{n:j6}(h:NI n):L7 n (K7 n):=by
 have hkl:=h.kl;have hb:=h.ld.bal;have a1:∀x∈C2 n.Id ⟨8,0,0,0,(n.a6.length:Int),zE,[]⟩,MI x:=a3X h.id .need (by simp only;omega)
 have F7:∀{l:List l8},(∀x∈l,MI x)->∀x∈C2 n.Id ⟨8,0,0,0,(n.a6.length:Int),zE,[]⟩++l,MI x:=by
  intro l hl x hx;rcases d80.1 hx with q|q
  ·exact a1 x q
  ·exact hl x q
 unfold K7;by_cases h1:n.a9=1
 ·rw [show (n.a9==1)=true by simpa using h1];refine ⟨h,rfl,F7 (a3X h.id (.one (.inl rfl) ?_) (by simp only;omega))⟩;rcases h.ld with q|q|q|q
  ·omega
  ·exact ⟨q.2.1.b1,q.2.1.b2⟩
  all_goals exact absurd q.1 (by omega)
 rw [show (n.a9==1)=false by simpa using h1];by_cases h2:n.a9=2
 ·rw [show (n.a9==2)=true by simpa using h2];have:=a7a h;exact ⟨this.ni,this.id,F7 this.ms⟩
 rw [show (n.a9==2)=false by simpa using h2];by_cases h3:n.a9=3
 ·rw [show (n.a9==3)=true by simpa using h3];rcases h.ld with q|q|q|q
  ·omega
  ·omega
  ·omega
  ·exact ⟨h,rfl,F7 (a3X h.id (.accept ⟨q.2.1.b1,q.2.1.b2⟩ (by omega) q.2.2.2.1) (by simp only;omega))⟩
 rw [show (n.a9==3)=false by simpa using h3];cases hbz:n.i4
 ·exact ⟨h,rfl,a1⟩
 ·rcases h.wt with q|q
  ·exact ⟨h,rfl,F7 (a3X h.id (.ask q.2.2.1 q.2.2.2.1) (by simp))⟩
  ·rw [hbz] at q;cases q.1
theorem NI.open{id:Int}(h:0<=id/\id<=2):NI (A2 id):=
 ⟨h,⟨by simp [A2],by simp [A2]⟩,by simp [A2],by simp [A2],by simp [A2],by simp [A2],⟨by simp [A2],by simp [A2]⟩,by simp [A2],by simp [A2],.inl ⟨rfl,rfl,rfl,rfl,rfl,rfl⟩,.inr ⟨rfl,rfl,rfl⟩⟩
theorem NI.fall{n:j6}(h:NI n):NI (Y5 n):=
 ⟨h.id,h.pr,h.vl,h.vs,h.kl,h.ks,h.sq,by simp [Y5,A2],by simp [Y5,A2],.inl ⟨rfl,rfl,rfl,rfl,rfl,rfl⟩,.inr ⟨rfl,rfl,rfl⟩⟩
theorem a7y(w:j8):a1R w []=w:=by
 unfold a1R;simp
theorem d7w(w:j8):M7 w []=w:=by
 unfold M7;simp
theorem a1j{w:j8}(h:WI w){i:Nat}(hi:i<3):∃n,w.c6[i]?=some n/\u7 w (i:Int)=n/\n.Id=(i:Int)/\NI n/\i<w.c6.length:=by
 have hl:=h.nl;have hg:=d8Z (l:=w.c6) (i:=i) (by omega);obtain ⟨h1,h2⟩:=h.ns i _ hg;refine ⟨_,hg,?_,h1,h2,by omega⟩;unfold u7;rw [d9q,d9b,hg];rfl
theorem WI.put{w:j8}(h:WI w){i:Nat}{n:j6}(hid:n.Id=(i:Int))(hn:NI n):WI (D9 w (i:Int) n):=by
 refine ⟨by simp [D9,h.nl],?_,h.ml,h.ms,h.al,h.aq,h.tl,h.ts⟩;intro j m hm;simp only [D9,d9q] at hm;by_cases q:i=j
 ·subst q;have hlt:=(d83.1 hm).1;rw [d9A] at hlt;rw [d99 hlt] at hm;injection hm with hm;subst hm;exact ⟨hid,hn⟩
 ·rw [d9h q] at hm;exact h.ns j m hm
theorem WI.send{w:j8}(h:WI w){l:List l8}(hl:∀m∈l,MI m):WI (M7 w l):=by
 have:=h.ml;refine ⟨h.nl,h.ns,by simp only [M7,d9d,d91];omega,?_,h.al,h.aq,h.tl,h.ts⟩;intro m hm;rcases d80.1 hm with q|q
 ·exact h.ms m q
 ·exact hl m (d9C q)
theorem WI.tell{w:j8}(h:WI w){l:List r9}(hl:∀t∈l,N1 t=true):WI (a1R w l):=by
 have:=h.tl;refine ⟨h.nl,h.ns,h.ml,h.ms,h.al,h.aq,by simp only [a1R,d9d,d91];omega,?_⟩;intro m hm;rcases d80.1 hm with q|q
 ·exact h.ts m q
 ·exact hl m (d9C q)
theorem WI.off{w:j8}(h:WI w)(i:Int):WI (X9 w i):=by
 have:=h.ml;refine ⟨h.nl,h.ns,by simp only [X9,d9d,d91,List.length_drop];omega,?_,h.al,h.aq,h.tl,h.ts⟩;intro m hm;rcases d80.1 hm with q|q
 ·exact h.ms m (d9C q)
 ·exact h.ms m (d9N q)
theorem c0i(n:j6)(p:List m5):(D5 n p).2.length<=3:=by
 rw [Y2];cases H8 n p
 ·simp
 ·cases n.a9==2
  ·cases n.a9==0
   ·simp
   ·exact a16 _ _
  ·exact a80 _
theorem b73(n:j6)(p:List m5):decide ((D5 n p).1.Seq>n.Seq)=H8 n p:=by
 rw [Y2];cases H8 n p
 ·simp
 ·simp only [e0O];cases n.a9==2
  ·simp [F3];omega
  ·have:=(b2o (F3 n p)).seq;simp only [e0O,this];simp [F3];omega
theorem b7D{n:j6}{p:List m5}(h:H8 n p=true):(D5 n p).1.b8=(F3 n p).b8:=by
 rw [Y2,h];simp only [e0O];cases n.a9==2
 ·rfl
 ·exact (b2o (F3 n p)).want
def c8U(w:j8)(a:D4):j8:={w with g9:=w.g9++[a]}
theorem WI.addAsked{w:j8}(h:WI w){a:D4}(hl:w.g9.length<60)(ha:T2 a=true):WI (c8U w a):=by
 refine ⟨h.nl,h.ns,h.ml,h.ms,by simp only [c8U,d9d,d90];omega,?_,h.tl,h.ts⟩;intro x hx;rcases d80.1 hx with q|q
 ·exact h.aq x q
 ·rw [d84.1 q];exact ha
theorem b5v{n:j6}(h:NI n)(m:l8):(L0 n m).2.1.length<=60/\(L0 n m).2.2.length<=1:=by
 have hkl:=h.kl;have al:∀n:j6,(M9 n).2.length<=1:=fun n=>by
  rcases a8P n with q|⟨k,_,_,q⟩<;>rw [q]<;>simp
 have ll:∀(n:j6) (e:l7),(Q1 n e).2.1.length<=3/\(Q1 n e).2.2.length<=1:=fun n e=>⟨a80 _,al _⟩
 have nl:(a0X n m).length<=40:=by
  unfold a0X;have:∀d k:Nat,((d87 d).map fun j=>V9 n m (k+j)).flatten.length<=d:=by
   intro d k;rw [List.length_flatten,e0l];have hs:∀(l:List Nat),((l.map (List.length ∘ fun j=>V9 n m (k+j))).sum)<=l.length:=by
    intro l;induction l with
    | nil=>simp
    | cons x l ih=>
     simp only [d9s,List.sum_cons,d92,Function.comp];have:(V9 n m (k+x)).length<=1:=by
      unfold V9;cases n.a6[k+x]?<;>simp
     omega
   have:=hs (d87 d);rwa [List.length_range] at this
  have:=this (n.a6.length-m.c8.toNat) m.c8.toNat;omega
 unfold L0;cases m.a0==1
 ·cases m.a0==2
  ·cases m.a0==3
   ·cases m.a0==4
    ·cases m.a0==5
     ·cases m.a0==6
      ·cases m.a0==7
       ·cases m.a0==8
        ·exact ⟨by simp,by simp⟩
        ·exact ⟨by simp only [e0O,e0P];omega,by simp⟩
       ·refine ⟨?_,by simp⟩;simp only [e0O,e0P,U5];cases n.a9==0||(decide (4<=n.d8.length)||E7 n.a6 m.d7.a7)
        ·exact d9T (a80 _) (by omega)
        ·simp
      ·exact ⟨by simp,by simp⟩
     ·simp only [e0O,e0P,Z9];cases decide (m.c8<(n.a6.length:Int))
      ·cases decide (m.c8>(n.a6.length:Int))
       ·have:=ll n m.d7;exact ⟨by simp only [e0P];omega,by simp only [e0P];omega⟩
       ·exact ⟨by simp,by simp⟩
      ·exact ⟨by simp,by simp⟩
    ·simp only [e0O,e0P,a0l];cases n.a9 != 3||(m.a5 != n.a5||m.c8 != (n.a6.length:Int))
     ·cases F7 (n.a8.set m.b7.toNat true)
      ·exact ⟨by simp,by simp⟩
      ·have h1:=ll {n with a8:=n.a8.set m.b7.toNat true} n.c9;have h2:=a16 n.Id ⟨5,0,0,0,(n.a6.length:Int),n.c9,[]⟩;exact ⟨by simp only [e0O,e0P,d9d];omega,by simp only [e0O,e0P];omega⟩
     ·exact ⟨by simp,by simp⟩
   ·refine ⟨?_,by simp⟩;simp only [e0O,e0P,U2];cases D7 n.Acc m.a5 m.c8 m.d7<;>simp
  ·refine ⟨?_,by simp⟩;simp only [e0O,e0P,U3];cases n.a9 != 1||m.a5 != n.a5
   ·cases F7 (n.b7.set m.b7.toNat true)
    ·simp
    ·exact d9T (a80 _) (by omega)
   ·simp
 ·refine ⟨?_,by simp⟩;simp only [e0O,U9];cases C3 n.Acc m.a5<;>simp
def a1B(e:F9):Prop:=z0 32 okT e.i6
theorem c5F(n:j6):(K7 n).2.length<=6:=by
 have l0:=a16 n.Id ⟨8,0,0,0,(n.a6.length:Int),zE,[]⟩;unfold K7;cases n.a9==1
 ·cases n.a9==2
  ·cases n.a9==3
   ·cases n.i4
    ·simp only [e0P];omega
    ·have:=a16 n.Id ⟨7,0,0,0,0,n.b8,[]⟩;simp only [e0O,e0P,d9d];omega
   ·have:=a16 n.Id ⟨3,0,0,n.a5,(n.a6.length:Int),n.c9,[]⟩;simp only [e0O,e0P,d9d];omega
  ·have:=a80 n;simp only [e0O,e0P,d9d];omega
 ·have:=a16 n.Id ⟨1,0,0,n.a5,(n.a6.length:Int),zE,[]⟩;simp only [e0O,d9d];omega
theorem c2N(n:j6):(M5 n).2.length<=3:=by
 unfold M5;cases decide (H3 n.Acc.d9 n.Id<0)
 ·exact a16 _ _
 ·simp
theorem d5v{w:j8}{i:Nat}{n:j6}(h:w.c6[i]?=some n):D9 w (i:Int) n=w:=by
 unfold D9;rw [d9q];obtain ⟨hi,rfl⟩:=d83.1 h;rw [e0E]
theorem d3U{w:j8}(h:WI w){i:Nat}(hi:i<3){p:List m5}(hp:z0 32 okT p):WI (a0T w (i:Int) p):=by
 obtain ⟨n,hg,hn,hid,hni,hlt⟩:=a1j h hi;have hf:s6 p:=hp.fits (by decide);have hr:=a8R hni hf;unfold a0T;rw [hn];cases hd:decide (60<=w.g9.length)
 ·simp only [e0P];simp only [decide_eq_false_iff_not] at hd;rw [b73];cases hc:H8 n p
  ·simp only [e0P];exact (h.put (hr.id.trans hid) hr.ni).send hr.ms
  ·simp only [e0O];refine WI.send (w:=D9 (c8U w ⟨(D5 n p).1.b8.a7,p⟩) (i:Int) (D5 n p).1) (WI.put (w:=c8U w ⟨(D5 n p).1.b8.a7,p⟩) (h.addAsked (by omega) ?_) (hr.id.trans hid) hr.ni) hr.ms;rw [b7D hc];obtain ⟨w1,w2⟩:=b28 hni hf hc;obtain ⟨c1,c2,c3⟩:=b7h.1 hc;unfold T2;have:=hni.id;have:=hni.sq;simp only [d82,C7,w2,and_true];show (0<=n.Id/\n.Id<=2)/\1<=n.Seq+1/\n.Seq+1<=1000
   omega
 ·exact h
theorem d8z{w:j8}(h:WI w)(e:F9):WI (Z0 w e):=by
 unfold Z0;by_cases h0:e.A<0
 ·rw [show decide (0<=e.A)=false by simp;omega];exact h
 ·obtain ⟨k,hk⟩:∃k:Nat,e.A=(k:Int):=⟨e.A.toNat,by omega⟩
  rw [hk,show decide (0<=(k:Int))=true by simp,d9q];simp only [e0O];by_cases hl:k<w.g8.length
  ·rw [d8Z hl];have hm:=h.ms _ (d85 hl);generalize w.g8[k]=m at hm;simp only;cases e.a0==4
   ·simp only [e0P];cases e.a0==3
    ·simp only [e0P];have ho:=h.off (k:Int);have ht:=hm.to;obtain ⟨t,htt⟩:∃t:Nat,m.To=(t:Int):=⟨m.To.toNat,by omega⟩
     obtain ⟨n,hg,hn,hid,hni,hlt⟩:=a1j ho (i:=t) (by omega);have hn':u7 w (t:Int)=n:=hn;have hr:=b1i hni hm;rw [htt,hn'];exact ((ho.put (hr.id.trans hid) hr.ni).send hr.ms).tell hr.ts
    ·exact h.off _
   ·simp only [e0O];have hs:∀x∈[m],MI x:=fun x hx=>by rw [d84.1 hx];exact hm
    exact h.send hs
  ·rw [d9E (by omega)];exact h
theorem b1l{w:j8}(h:WI w){e:F9}(he:z0 32 okT e.i6):WI (E0 w e):=by
 have n2:=d8z h e;unfold E0;cases e.a0==2||(e.a0==3||e.a0==4)
 ·simp only [e0P];cases hA:m9 e.A 0 2
  ·exact h
  rw [C7] at hA;obtain ⟨i,hi⟩:∃i:Nat,e.A=(i:Int):=⟨e.A.toNat,by omega⟩
  obtain ⟨n,hg,hn,hid,hni,hlt⟩:=a1j h (i:=i) (by omega);rw [hi,hn];simp only [d9e,e0P];cases e.a0==1
  ·cases e.a0==5
   ·cases e.a0==6
    ·cases e.a0==7
     ·exact h
     ·exact h.put hid hni.fall
    ·have hr:=a7G hni;exact (h.put (hr.id.trans hid) hr.ni).send hr.ms
   ·have hr:=a8i hni;exact (h.put (hr.id.trans hid) hr.ni).send hr.ms
  ·exact d3U h (by omega) he
 ·exact n2
theorem WI.open:WI L3:=by
 refine ⟨rfl,?_,by simp [L3],by simp [L3],by simp [L3],by simp [L3],by simp [L3],by simp [L3]⟩;intro i n hn;match i,hn with
 | 0,hn=>injection hn with hn;subst hn;exact ⟨rfl,.open (by omega)⟩
 | 1,hn=>injection hn with hn;subst hn;exact ⟨rfl,.open (by omega)⟩
 | 2,hn=>injection hn with hn;subst hn;exact ⟨rfl,.open (by omega)⟩
 | i+3,hn=>simp [L3] at hn
structure Far(w:j8)(out:List F9)(b:Nat):Prop where
 w:WI w
 e:∀x∈out,a1B x
 l:out.length<=b
theorem a4y{α:Type}{l:List α}(z:α)(b:Nat)(h:l.length*b<=140737488351232):(bif ((l.length:Int)==0) then some [] else r7 (0<=(l.length:Int)/\(l.length:Int)*(b:Int)<=140737488355328) (r7 (l.length=(d81 (l.length:Int).toNat z).length) (some l)))=some l:=by
 cases hl:((l.length:Int)==0)
 ·have:(l.length:Int)*(b:Int)=((l.length*b:Nat):Int):=by rw [Int.natCast_mul]
  rw [e0P,x6 ⟨by omega,by omega⟩,x6 (by simp)]
 ·simp only [beq_iff_eq] at hl;rw [d9c (by omega:l.length=0)];rfl
theorem b2N{α R:Type}{body:List α×Int->Option (j7 R (List α×Int) (List α))}(l:List α)(hl:s6 l)(h1:∀(k:Nat) (hk:k<l.length),body (l,(k:Int))=some (.nxt (l.set k l[k],l9 ((k:Int)+1))))(h2:body (l,(l.length:Int))=some (.brk l)):p6 body (l,0)=some (.brk l):=by
 have:=a1u (body:=body) (fun k=>(l,(k:Int))) l.length fun k hk=>by rw [h1 k hk,J2 hl hk,e0E]
 exact this.trans (E9 h2)
theorem b1G{l:List n7}(h:z0 96 a0k l):a4D l=some l:=by
 unfold a4D;rw [show b6q l=some l from a4y _ 96 h.1,d8Y,b2N l (h.fits (by decide))]
 ·rfl
 ·intro k hk;unfold b27;rw [x7 _ k hk,e0O,s8 hk,d8Y,a9y (h.2 _ (d85 hk)).2];rfl
 ·unfold b27;rw [A4];rfl
theorem b3T{x:v6}(h:a30 x):a2v x=some x:=by
 unfold a2v;rw [b1G h.2];rfl
theorem c38{l:List Bool}(h:z0 1 okT l):b0a l=some l:=a4y _ 1 h.1
theorem b9N{l:List m5}(h:l.length*32<=140737488351232):b2n l=some l:=a4y _ 32 h
theorem b8n{l:List r9}(h:l.length*40<=140737488351232):b0t l=some l:=a4y _ 40 h
theorem b3z{n:j6}(h:a10 n):a5m n=some n:=by
 obtain ⟨h1,h2,h3,h4,h5,h6,h7,h8,h9,h10,h11,h12,h13⟩:=h;unfold a5m;rw [b3T h2,d8Y,c2i h3,d8Y,c38 h7,d8Y,b1G h8,d8Y,a9y h9,d8Y,c38 h10,d8Y,b9N h11.1,d8Y,a9y h12,d8Y,c2i h13];rfl
theorem d52{m:l8}(h:a4I m):b3f m=some m:=by
 unfold b3f;rw [a9y h.2.2.2.2.2.1,d8Y,b1G h.2.2.2.2.2.2];rfl
theorem c49{l:List l8}(h:z0 152 a4I l):a7U l=some l:=by
 unfold a7U;rw [show b3Y l=some l from a4y _ 152 h.1,d8Y,b2N l (h.fits (by decide))]
 ·rfl
 ·intro k hk;unfold b0Q;rw [x7 _ k hk,e0O,s8 hk,d8Y,d52 (h.2 _ (d85 hk))];rfl
 ·unfold b0Q;rw [A4];rfl
theorem a92{w:j8}(h:a9S w):Z6 w=some w:=by
 obtain ⟨h1,h2,h3,h4⟩:=h;unfold Z6 b7O;rw [show b7v w.c6=some w.c6 from a4y _ 392 h1.1,d8Y,c49 h2,d8Y,show b7H w.g9=some w.g9 from a4y _ 40 h3.1,d8Y,b8n h4.1,d8Y,b2N w.c6 (h1.fits (by decide))]
 ·simp only [d8Y,j9.go];rw [b2N w.g9 (h3.fits (by decide))]
  ·rfl
  ·intro k hk;unfold b2R;rw [x7 _ k hk,e0O,s8 hk,d8Y,b9N (h3.2 _ (d85 hk)).2.1];rfl
  ·unfold b2R;rw [A4];rfl
 ·intro k hk;unfold b1T;rw [x7 _ k hk,e0O,s8 hk,d8Y,b3z (h1.2 _ (d85 hk))];rfl
 ·unfold b1T;rw [A4];rfl
theorem d7g:a95=some L3:=by
 unfold a95;have e:∀i:Int,0<=i->i<=2->b1E i=some (A2 i):=fun i h1 h2=>by
  unfold b1E;rw [G2,d8Y,m9,decide_eq_true ⟨h1,h2⟩];rfl
 rw [F8 (t:=([A2 0],1)) (by unfold a6x;rw [e 0 (by omega) (by omega)];rfl),F8 (t:=([A2 0,A2 1],2)) (by unfold a6x;rw [e 1 (by omega) (by omega)];rfl),F8 (t:=([A2 0,A2 1,A2 2],3)) (by unfold a6x;rw [e 2 (by omega) (by omega)];rfl),E9 (b:=[A2 0,A2 1,A2 2]) (by unfold a6x;rfl)];show (Z6 L3).bind _=_
 rw [a92 WI.open.ok];rfl
theorem b9Z{a:m6}(h:s6 a.n.a6)(q:p9):a9r a q=some (E7 a.n.a6 q,a):=by
 unfold a9r;rw [b6e h,d8Y,c1O];cases a.n.a6.findIdx? (E8 q) with
 | none=>rfl
 | some k=>simp
theorem d8I{a:m6}(h:s6 a.n.a6)(q:p9):b1M a q=some (E7 a.n.a6 q,a):=by
 unfold b1M;rw [b6e h,d8Y,c1O];cases a.n.a6.findIdx? (E8 q) with
 | none=>rfl
 | some k=>simp
def qA(a:m6)(q:List l7):m6:=⟨{a.n with d8:=q},a.out,a.told⟩
theorem d6y{a:m6}{q:List l7}(h:a.n.d8=q):qA a q=a:=by
 subst h;rfl
theorem b9K{known:List l7}(hk:s6 known):∀(q:List l7) (a:m6),a.n.a6=known->z0 88 I7 q->a.n.d8=q->p6 (fun s:m6=>a2x s) a=some (match O7 known q with
  | (q',some e)=>.ret (e,true,qA a q')
  | (q',none)=>.brk (qA a q'))
 | [],a,h1,_,h2=>by
  rw [E9 (body:=fun s:m6=>a2x s) (b:=a) (by unfold a2x;rw [h2];rfl)];show _=some (j9.brk (qA a []))
  rw [d6y h2]
 | e::q,a,h1,hq,h2=>by
  have hl:(e::q).length*88<=140737488351232:=hq.1;rw [d92] at hl;have hb:a2x a=some (bif E7 known e.a7 then .nxt (qA a q) else .ret (e,true,qA a q)):=by
   unfold a2x;rw [h2,show idx (e::q) 0=some e from rfl,show decide ((((e::q).length:Nat):Int)>0)=true by simp,e0O,d8Y,x6 (by simp;omega),show ((e::q).drop (1:Int).toNat).take ((e::q).length-(1:Int).toNat)=q by simp];rw [show (⟨⟨a.n.Id,a.n.Acc,a.n.a6,a.n.Seq,a.n.a9,a.n.a5,a.n.b7,a.n.f0,a.n.c9,a.n.a8,a.n.i4,a.n.i6,a.n.b8,q⟩,a.out,a.told⟩:m6)=qA a q from rfl,b9Z (a:=qA a q) (by show s6 a.n.a6;rw [h1];exact hk),d8Y,show (qA a q).n.a6=known from h1];cases E7 known e.a7<;>rfl
  unfold O7;cases hkn:E7 known e.a7
  ·rw [a0r (body:=fun s:m6=>a2x s) (r:=(e,true,qA a q)) (by rw [hb,hkn];rfl)];rfl
  ·rw [F8 (body:=fun s:m6=>a2x s) (t:=qA a q) (by rw [hb,hkn];rfl),b9K hk q (qA a q) h1 ⟨by omega,fun x hx=>hq.2 x (List.mem_cons_of_mem _ hx)⟩ rfl];rfl
def a87(a:m6)(x:j6×Option l7):l7×Bool×m6:=match x with
 | (n,some e)=>(e,true,⟨n,a.out,a.told⟩)
 | (n,none)=>(zE,false,⟨n,a.out,a.told⟩)
theorem d0c{a:m6}(hf:s6 a.n.f0)(hv:∀v∈a.n.f0,0<=v.a5):∀(m k:Nat),a.n.f0.length-k=m->p6 (fun s:Int=>a2p a s) (k:Int)=some (bif (a.n.f0.drop k).any (fun v=>decide (v.a5>0)) then .ret (eN,true,a) else .brk ()):=by
 intro m;induction m with
 | zero=>
  intro k hk;rw [E9 (body:=fun s:Int=>a2p a s) (b:=()) (by unfold a2p;rw [show decide ((k:Int)<(a.n.f0.length:Int))=false by simp;omega];rfl),d9v (by omega)];rfl
 | succ m ih=>
  intro k hk;have hlt:k<a.n.f0.length:=by omega
  have hb:a2p a (k:Int)=some (bif decide (a.n.f0[k].a5>0) then .ret (eN,true,a) else .nxt ((k+1:Nat):Int)):=by
   have h0:=hv _ (d85 hlt);unfold a2p;rw [x7 _ k hlt,e0O,s8 hlt,d8Y,J2 hf hlt,show (a.n.f0[k].a5 != 0)=decide (a.n.f0[k].a5>0) by
    rw [Bool.eq_iff_iff];simp;omega]
   cases decide (a.n.f0[k].a5>0)<;>rfl
  rw [d9F hlt,List.any_cons];cases hd:decide (a.n.f0[k].a5>0)
  ·rw [hd] at hb;rw [F8 (body:=fun s:Int=>a2p a s) hb,ih (k+1) (by omega),d95]
  ·rw [hd] at hb;rw [a0r (body:=fun s:Int=>a2p a s) hb,e0F];rfl
theorem d40{a:m6}(h:a10 a.n)(hv:∀v∈a.n.f0,0<=v.a5):b2a a=some (a87 a (R5 a.n)):=by
 obtain ⟨h1,h2,h3,h4,h5,h6,h7,h8,h9,h10,h11,h12,h13⟩:=h;have hk:s6 a.n.a6:=h3.fits (by decide);have hbf:s6 a.n.f0:=h8.fits (by decide);have j1:b3n a=some (a87 a ({a.n with d8:=(O7 a.n.a6 a.n.d8).1},(O7 a.n.a6 a.n.d8).2)):=by
  unfold b3n;rw [b9K hk _ a rfl h13 rfl];obtain ⟨q,o⟩:=O7 a.n.a6 a.n.d8;cases o<;>rfl
 have j2:(∀v,a.n.f0[a.n.a6.length]?=some v->¬v.a5>0)->b3A a=some (a87 a (a01 a.n)):=by
  intro hn;have hd:(a.n.f0.drop (a.n.a6.length+1)).any (fun v=>decide (v.a5>0))=(a.n.f0.drop a.n.a6.length).any (fun v=>decide (v.a5>0)):=by
   by_cases hl:a.n.a6.length<a.n.f0.length
   ·rw [d9F hl,List.any_cons,show decide (a.n.f0[a.n.a6.length].a5>0)=false by
     simpa using hn _ (d8Z hl),d95]
   ·rw [d9v (by omega),d9v (by omega)]
  unfold b3A a01;rw [B4 (by omega) (by have:=h3.1;omega),show ((a.n.a6.length:Int)+1)=((a.n.a6.length+1:Nat):Int) from rfl,d0c hbf hv _ _ rfl,hd];generalize (({a.n with d8:=(O7 a.n.a6 a.n.d8).1},(O7 a.n.a6 a.n.d8).2):j6×Option l7)=X at j1 ⊢;cases (a.n.f0.drop a.n.a6.length).any fun v=>decide (v.a5>0)
  ·simp only [e0P,d8Y,j9.go];unfold b5l;cases a.n.i4
   ·exact j1
   ·simp only [e0O,b9Z hk,d8Y,d9m];cases E7 a.n.a6 a.n.b8.a7
    ·rfl
    ·exact j1
  ·rfl
 unfold b2a R5;by_cases hl:a.n.a6.length<a.n.f0.length
 ·rw [x7 _ _ hl,s8 hl,d8Z hl];have h0:=hv _ (d85 hl);rw [e0O,d8Y,show (a.n.f0[a.n.a6.length].a5 != 0)=decide (a.n.f0[a.n.a6.length].a5>0) by rw [Bool.eq_iff_iff];simp;omega];simp only;cases hd:decide (a.n.f0[a.n.a6.length].a5>0)
  ·exact j2 (by rw [d8Z hl];intro v hv;injection hv with hv;subst hv;simpa using hd)
  ·rfl
 ·rw [show decide ((a.n.a6.length:Int)<(a.n.f0.length:Int))=false by simp;omega,d9E (by omega)];exact j2 (by rw [d9E (by omega)];simp)
theorem NI.accOk{n:j6}(h:NI n):K2 n.Acc=true/\a30 n.Acc:=by
 have:=a2O.2 h;unfold D6 at this;simp only [d82] at this;exact ⟨by simp_all,h.ok.2.1⟩
theorem b1z{a:v6}(h:K2 a=true)(ho:a30 a)(b:Int):a6Z a b=some (match C3 a b with|some x=>(x,true)|none=>(a,false)):=by
 unfold a6Z C3 a8m;rw [b7T ho,d8Y,h,b3T ho,G2];simp only [d9e,e0P,d8Y];cases m9 b 1 3000
 ·rfl
 ·cases hd:decide (b<a.d9)
  ·rw [show decide (a.d9<=b)=true by simp at hd ⊢;omega];rfl
  ·rw [show decide (a.d9<=b)=false by simp at hd ⊢;omega];rfl
theorem c9p{a:v6}(h:K2 a=true)(ho:a30 a)(b:Int):b4z a b=some (match C3 a b with|some x=>(x,true)|none=>(a,false)):=b1z h ho b
theorem c55(slot:Nat)(hs:slot<40):∀(m:Nat) (vs:List n7),slot+1-vs.length=m->p6 (fun s:List n7=>a47 (slot:Int) s) vs=some (.brk (N2 vs (slot+1)))
 | 0,vs,hm=>by
  rw [E9 (body:=fun s:List n7=>a47 (slot:Int) s) (b:=vs) (by unfold a47;rw [show decide ((vs.length:Int)<=(slot:Int))=false by simp;omega];rfl)];unfold N2;rw [hm];simp
 | m+1,vs,hm=>by
  rw [F8 (body:=fun s:List n7=>a47 (slot:Int) s) (t:=vs++[v0]) (by unfold a47;rw [show decide ((vs.length:Int)<=(slot:Int))=true by simp;omega,e0O,x6 (by omega)];rfl),c55 slot hs m _ (by simp;omega)];unfold N2;rw [d9d,d90,show slot+1-vs.length=(slot+1-(vs.length+1))+1 by omega,e0x,d9k];rfl
theorem c4F{a:v6}(h:K2 a=true)(ho:a30 a)(hl:a.a8.length<=40){b s:Int}(hb:F4 b){e:l7}(he:I7 e):a9m a b s e=some (match D7 a b s e with|some x=>(x,true)|none=>(a,false)):=by
 unfold a9m D7;rw [c9p h ho,d8Y,G2,a3m he.f,b3T ho];cases hp:C3 a b with
 | none=>cases m9 s 0 39&&s9 e<;>rfl
 | some x=>
  obtain ⟨rfl,hb1,hb2,hb3⟩:=a2W hp;simp only [d9e,e0P,d8Y];cases hs:m9 s 0 39
  ·rfl
  cases s9 e
  ·rfl
  obtain ⟨k,rfl⟩:∃k:Nat,s=(k:Int):=⟨s.toNat,by rw [C7] at hs;omega⟩
  rw [C7] at hs;have hlen:=b4D a.a8 (k+1);have hk:k<(N2 a.a8 (k+1)).length:=by rw [hlen];omega
  simp only [d9e,Bool.and_self,e0P,e0O,d8Y,d9t,d9q];rw [c55 k (by omega) _ _ rfl];simp only [d8Y,j9.go,b43];rw [s8 hk,d8Y,d9q,b3T (x:=⟨b,(N2 a.a8 (k+1)).set k ⟨b,e⟩⟩) ⟨hb,a0o (by rw [d9A,hlen];omega) (by
   intro v hv;rcases d9r hv with q|q
   ·rcases b54 q with q|q
    ·exact ho.2.2 v q
    ·rw [q];exact c0s
   ·rw [q];exact ⟨hb,he⟩)⟩]
  rfl
theorem a4R{a:m6}(h:a.out.length<=1000)(to:Int)(m:l8):a1Z a to m=some ⟨a.n,a.out++[{m with b7:=a.n.Id,To:=to}],a.told⟩:=by
 unfold a1Z;rw [x6 (by omega)]
def U4(m:l8)(a:m6)(t:Int):m6:=bif t != a.n.Id then ⟨a.n,a.out++[{m with b7:=a.n.Id,To:=t}],a.told⟩ else a
theorem c3q(m:l8)(a:m6)(t:Int):(U4 m a t).out.length<=a.out.length+1:=by
 unfold U4;cases t != a.n.Id<;>simp
theorem a3e{a:m6}(hid:0<=a.n.Id/\a.n.Id<=2)(h:a.out.length<=900)(m:l8):a1h a m=some ⟨a.n,a.out++C2 a.n.Id m,a.told⟩:=by
 have e:∀(a:m6) (t:Int),a.out.length<=1000->0<=t->t<3->a2y m t a=some (.nxt (t+1,U4 m a t)):=by
  intro a t ho h0 h1;unfold a2y b7G U4;rw [show decide (t<3)=true by simpa using h1,e0O,a4R ho,B4 (by omega) (by omega)];cases t != a.n.Id<;>rfl
 have l1:=c3q m a 0;have l2:=c3q m (U4 m a 0) (0+1);have h0:=F8 (body:=fun s:Int×m6=>a2y m s.1 s.2) (s:=(0,a)) (e a 0 (by omega) (by omega) (by omega));have h1:=F8 (body:=fun s:Int×m6=>a2y m s.1 s.2) (s:=(0+1,U4 m a 0)) (e (U4 m a 0) (0+1) (by omega) (by omega) (by omega));have h2:=F8 (body:=fun s:Int×m6=>a2y m s.1 s.2) (s:=(0+1+1,U4 m (U4 m a 0) (0+1))) (e (U4 m (U4 m a 0) (0+1)) (0+1+1) (by omega) (by omega) (by omega));have h3:=a0r (body:=fun s:Int×m6=>a2y m s.1 s.2) (s:=(0+1+1+1,U4 m (U4 m (U4 m a 0) (0+1)) (0+1+1))) (show a2y m (0+1+1+1) _=_ from rfl);unfold a1h;rw [h0,h1,h2,h3];obtain ⟨n,o,t⟩:=a;simp only [d8Y,j9.go];have hid':n.Id=0\/n.Id=1\/n.Id=2:=by have:=hid.1;have:=hid.2;simp only at *;omega
 rcases hid' with q|q|q<;>simp [U4,C2,q]
theorem c2q{a:m6}(h:0<=a.n.Id/\a.n.Id<=2):a7J a=some (W7 a.n.Id,a):=by
 obtain ⟨y,hy⟩:=d0C h;unfold a7J;rw [x6 (by decide),hy];rfl
theorem b69(a:m6):a9O a=some ⟨a15 a.n,a.out,a.told⟩:=rfl
theorem b2y(a:m6)(b:Int):a7k a b=some ⟨H4 a.n b,a.out,a.told⟩:=by
 unfold a7k H4;rw [b69];cases a.n.a9 != 0
 ·rfl
 ·cases decide (b>a.n.a5)<;>rfl
theorem U7.bal0{n:j6}(h:U7 n):∀v∈n.f0,0<=v.a5:=fun v hv=>(h.best.2 v hv).bal.1
def S8(a:m6)(x:j6×List l8):m6:=⟨x.1,a.out++x.2,a.told⟩
theorem a4M(a:m6):S8 a (a.n,[])=a:=by
 unfold S8;rw [d9D]
theorem a7A{a:m6}(h:NI a.n)(ho:a.out.length<=900):a4k a=some (S8 a (E2 a.n)):=by
 unfold a4k E2;rw [show decide ((a.n.a6.length:Int)>=40)=decide (40<=a.n.a6.length) by simp;omega];cases a.n.a9 != 2
 ·simp only [e0P,d95];cases hlt:decide (40<=a.n.a6.length)
  ·simp only [e0P,d40 h.ok h.ld.bal0,d8Y];obtain ⟨q,hq,hql,hqm,hqe⟩:=a6r a.n;cases hx:R5 a.n with
   | mk x o=>
   rw [hx] at hq hqe;have hq:x={a.n with d8:=q}:=hq;subst hq;cases o with
   | none=>
    simp only [a87,d9u,e0O,S8];rw [d9D]
   | some e=>
    have he:=(hqe e rfl).ok h.ok;obtain ⟨c1,c2⟩:=h.accOk;simp only [a87,d9e,e0P];rw [c4F (a:=a.n.Acc) c1 c2 h.vl h.ok.2.2.2.2.2.1 he,d8Y];simp only [a1o];cases hc:D7 a.n.Acc a.n.a5 (a.n.a6.length:Int) e with
    | none=>
     simp only [d9u,e0O,b69,d8Y,S8];rw [d9D]
    | some x=>
     simp only [d9e,e0P];rw [c2q (by exact h.id),d8Y];simp only;rw [a3e (by exact h.id) (by exact ho)];rfl
  ·simp only [e0O];rw [a4M]
 ·simp only [e0O,e0F];rw [a4M]
def a00(a:m6)(x:j6×List l8×List r9):m6:=⟨x.1,a.out++x.2.1,a.told++x.2.2⟩
theorem b3J(a:m6):a00 a (a.n,[],[])=a:=by
 unfold a00;rw [d9D,d9D]
theorem d00{a:m6}(h:NI a.n)(ho:a.out.length<=900)(ht:a.told.length<=900):b2u a=some (a00 a ((E2 (M9 a.n).1).1,(E2 (M9 a.n).1).2,(M9 a.n).2)):=by
 have hk:s6 a.n.a6:=h.ok.2.2.1.fits (by decide);obtain ⟨hl,he⟩:=a6R h.list;have j1:∀b:m6,NI b.n->b.out.length<=900->b12 b=some (S8 b (E2 b.n)):=by
  intro b hb hbo;unfold b12;rw [a7A hb hbo];rfl
 unfold b2u M9;rw [b6e hk,d8Y];cases hb:a.n.i4
 ·simp only [e0P,d8Y,j9.go];rw [j1 a h ho];simp only [S8,a00,d9D]
 ·cases hf:a.n.a6.findIdx? (E8 a.n.b8.a7) with
  | none=>
   simp only [e0O];rw [show decide ((-1:Int)>=0)=false from rfl];simp only [e0P,d8Y,j9.go];rw [j1 a h ho];simp only [S8,a00,d9D]
  | some k=>
   obtain ⟨hkl,h1,h2⟩:=a6j hf;have hlen:(u5 a.n.a6).2.length=a.n.a6.length:=by
    have:=(a21 hl he a.n.a6.length (d9B _)).2.1;rwa [d9L] at this
   have hc:idx (u5 a.n.a6).2 (k:Int)=some (P7 a.n.a6 k):=by
    rw [s8 (by omega)];unfold P7;rw [d8Z (by omega)];rfl
   have hj2:∀v:Int,b0f a (P7 a.n.a6 k) v=some (.brk ⟨a6w a.n,a.out,a.told++[⟨a.n.Id,a.n.b8.a7,P7 a.n.a6 k,v⟩]⟩):=by
    intro v;unfold b0f;rw [x6 (by omega)];rfl
   have hv:X0 a.n.a6 a.n.b8.a7=a.n.a6[k].d6.c7:=by
    unfold X0;rw [hf];simp only [d8Z hkl]
   simp only [e0O];rw [show decide ((k:Int)>=0)=true by simp];simp only [e0O];rw [c5N (okEntries.f h.ok.2.2.1) hl he,d8Y,hc,d8Y,s8 hkl,hv];cases P7 a.n.a6 k==0
   ·simp only [e0P,d8Y,j9.go,hj2];exact j1 ⟨a6w a.n,a.out,_⟩ h.freeN ho
   ·simp only [e0O,d8Y,j9.go,hj2];exact j1 ⟨a6w a.n,a.out,_⟩ h.freeN ho
theorem c4d{a:m6}(h:NI a.n)(hl:a.n.a6.length<40){e:l7}(he:s9 e=true)(ho:a.out.length<=900)(ht:a.told.length<=900):a8e a e=some (a00 a (Q1 a.n e)):=by
 have hk:=d00 (a:=⟨A9 a.n e,a.out,a.told⟩) (h.know he hl) ho ht;unfold a8e;rw [x6 (by omega)];unfold A9 at hk;cases hp:a.n.a9==3
 ·rw [hp] at hk;simp only [e0P,d8Y,j9.go] at hk ⊢;refine hk.trans ?_;unfold Q1 A9;rw [hp];rfl
 ·rw [hp] at hk;simp only [e0O,d8Y,j9.go] at hk ⊢;refine hk.trans ?_;unfold Q1 A9;rw [hp];rfl
theorem N6.two{m:l8}(h:N6 m)(hk:m.a0=2):(m.a8.length<=40/\∀v∈m.a8,VI v)/\m.c8+m.a8.length<=40:=by
 rcases h with q|q|q|q|q|q|q
 ·omega
 ·exact ⟨q.2.2.2.1,q.2.2.2.2⟩
 all_goals exact absurd q.1 (by omega)
theorem N6.five{m:l8}(h:N6 m)(hk:m.a0=5):m.c8<40/\s9 m.d7=true:=by
 rcases h with q|q|q|q|q|q|q
 ·omega
 ·omega
 ·omega
 ·exact ⟨q.2.2.1,q.2.2.2.1⟩
 all_goals exact absurd q.1 (by omega)
theorem d5W{a:m6}(h:NI a.n){m:l8}(hm:MI m)(ho:a.out.length<=900)(hto:m.To=a.n.Id):b1j a m=some (S8 a (U9 a.n m)):=by
 obtain ⟨c1,c2⟩:=h.accOk;have hs:=hm.sl;unfold b1j U9;rw [b1z c1 c2,d8Y];cases hp:C3 a.n.Acc m.a5 with
 | none=>
  simp only [d9u,e0O];rw [a4R (by omega)];simp only [d8Y,S8,G7,hto]
 | some x=>
  obtain ⟨rfl,_⟩:=a2W hp;simp only [d9e,e0P,b2y,d8Y];have hy:∀(n:j6) (vs:List n7),n.Id=a.n.Id->b2j m ⟨n,a.out,a.told⟩ vs=some ⟨n,a.out++[G7 m ⟨2,0,0,m.a5,m.c8,zE,vs⟩],a.told⟩:=by
   intro n vs hn;unfold b2j;rw [a4R (a:=⟨n,a.out,a.told⟩) (by exact d9T ho (by decide))];simp only [d8Y,G7,hto,hn]
  have hid:(H4 (⟨a.n.Id,⟨m.a5,a.n.Acc.a8⟩,a.n.a6,a.n.Seq,a.n.a9,a.n.a5,a.n.b7,a.n.f0,a.n.c9,a.n.a8,a.n.i4,a.n.i6,a.n.b8,a.n.d8⟩) m.a5).Id=a.n.Id:=a3w _ _;obtain ⟨k,hk⟩:∃k:Nat,m.c8=(k:Int):=⟨m.c8.toNat,by omega⟩
  cases hd:decide (m.c8<(a.n.Acc.a8.length:Int))
  ·simp only [e0P,d8Y,j9.go];rw [hy _ _ hid,d9v (by simp at hd;omega)];rfl
  ·simp only [e0O];rw [x6 (by simp at hd;omega)];simp only [d8Y,j9.go];rw [hy _ _ hid,c3I];rfl
theorem d8w{a:m6}(h:NI a.n){m:l8}(hm:MI m)(ho:a.out.length<=900)(hto:m.To=a.n.Id):b0I a m=some (S8 a (U2 a.n m)):=by
 obtain ⟨c1,c2⟩:=h.accOk;unfold b0I U2;rw [c4F c1 c2 h.vl hm.ok.2.2.2.1 hm.ok.2.2.2.2.2.1,d8Y];cases D7 a.n.Acc m.a5 m.c8 m.d7 with
 | none=>
  simp only [d9u,e0O];rw [a4R (by omega)];simp only [d8Y,S8,G7,hto]
 | some x=>
  simp only [d9e,e0P,b2y,d8Y];rw [a4R (by simp only;omega)];simp only [d8Y,S8,G7,hto,a3w]
theorem b9B:∀(l:List Bool) (hl:s6 l) (m k:Nat) (c:Int),k+m=l.length->0<=c->c<=k->p6 (fun s:Int×Int=>a2S l s.1 s.2) (c,(k:Int))=some (.brk (c+(((l.drop k).filter (· == true)).length:Int)))
 | l,hl,0,k,c,hk,h0,h1=>by
  have:k=l.length:=by omega
  subst this;rw [E9 (body:=fun s:Int×Int=>a2S l s.1 s.2) (b:=c) (by unfold a2S;rw [A4];rfl)];simp
 | l,hl,m+1,k,c,hk,h0,h1=>by
  have hlt:k<l.length:=by omega
  have hf:=hl;unfold s6 at hf;have hb:a2S l c (k:Int)=some (.nxt (bif l[k] then c+1 else c,((k+1:Nat):Int))):=by
   unfold a2S b4r;rw [x7 _ k hlt,e0O,s8 hlt,d8Y,J2 hl hlt,B4 (by omega) (by omega)];cases l[k]<;>rfl
  rw [F8 (body:=fun s:Int×Int=>a2S l s.1 s.2) hb,b9B l hl m (k+1) _ (by omega) (by cases l[k]<;>simp<;>omega) (by cases l[k]<;>simp<;>omega),d9F hlt];cases l[k]<;>simp<;>omega
theorem b8C{l:List Bool}(h:s6 l):∃c,a9l l=some c/\decide (c>=2)=F7 l:=by
 unfold a9l;rw [show p6 (fun s:Int×Int=>a2S l s.1 s.2) (0,0)=_ from b9B l h l.length 0 0 (by omega) (by omega) (by omega)];refine ⟨_,rfl,?_⟩;unfold F7;rw [Bool.eq_iff_iff];simp only [e0c,decide_eq_true_eq];omega
theorem c9c{a b:List n7}(ha:a.length<=40/\∀v∈a,VI v)(hb:b.length<=40/\∀v∈b,VI v):b0F a b=some (B2 a b):=by
 have oa:=a6B (by omega) ha.2;have ob:=a6B (by omega) hb.2;have hlen:=a85 a b;have hok:z0 96 a0k (B2 a b):=a6B (by omega) fun v hv=>(a6v hv).elim (ha.2 v) (hb.2 v)
 unfold b0F;rw [a7B oa,d8Y,a5a.2 ha,a7B ob,d8Y,a5a.2 hb];simp only [d9e,e0P];rw [d4K (body:=fun s:(List n7)×Int=>a3Q a b s.1 s.2) (B2 a b) (by unfold s6;omega) (fun l=>l) (by
  intro k hk;have hget:=a7q a b k;rw [d8Z hk] at hget;have hj1:∀l:List n7,b6O (k:Int) l=some (.nxt (l,l9 ((k:Int)+1))):=fun _=>rfl
  have htl:(((B2 a b).take k).length+1)*96<=140737488355328:=by rw [d91];omega
  show a3Q a b ((B2 a b).take k) (k:Int)=_
  have hstart:a3Q a b ((B2 a b).take k) (k:Int)=b20 a b ((B2 a b).take k) (k:Int):=by
   unfold a3Q;by_cases h1:k<a.length
   ·rw [x7 _ k h1];rfl
   ·rw [show decide ((k:Int)<(a.length:Int))=false by simp;omega,x7 _ k (by omega)];rfl
  rw [hstart];unfold b20;by_cases h1:k<a.length
  ·rw [show decide ((k:Int)>=(a.length:Int))=false by simp;omega,s8 h1];rw [d8Z h1] at hget;by_cases h2:k<b.length
   ·rw [show decide ((k:Int)>=(b.length:Int))=false by simp;omega,s8 h2];rw [d8Z h2] at hget;injection hget with hget;simp only [e0P,d8Y,x6 htl];rw [hget,show decide (a[k].a5>=b[k].a5) = !decide (b[k].a5>a[k].a5) by rw [Bool.eq_iff_iff];simp];cases decide (b[k].a5>a[k].a5)<;>rfl
   ·rw [show decide ((k:Int)>=(b.length:Int))=true by simp;omega];rw [d9E (by omega)] at hget;injection hget with hget;simp only [e0P,e0O,d8Y,x6 htl];rw [hget];rfl
  ·have h2:k<b.length:=by omega
   rw [show decide ((k:Int)>=(a.length:Int))=true by simp;omega,s8 h2];rw [d9E (by omega),d8Z h2] at hget;injection hget with hget;simp only [e0O,d8Y,x6 htl];rw [hget];rfl) (by
  show a3Q a b (B2 a b) ((B2 a b).length:Int)=_
  unfold a3Q;rw [show decide (((B2 a b).length:Int)<(a.length:Int))=false by simp;omega,show decide (((B2 a b).length:Int)<(b.length:Int))=false by simp;omega];rfl)]
 simp only [d8Y,j9.go,b38,b1G hok]
theorem c7l{a:m6}(h:NI a.n){m:l8}(hm:MI m)(hk:m.a0=2)(ho:a.out.length<=900):b1D a m=some (S8 a (U3 a.n m)):=by
 have hkd:=hm.kd.two hk;have hs:=hm.sl;have hf:=hm.fr;have hright:=b7t h hm hk;unfold b1D;unfold U3 at hright ⊢;by_cases p1:a.n.a9=1
 ·rw [show (a.n.a9 != 1)=false by simp [p1],d95] at hright;rw [show (a.n.a9 != 1)=false by simp [p1],d95];cases hb:m.a5 != a.n.a5
  ·rw [hb] at hright;simp only [e0P] at hright ⊢;have hl:a.n.b7.length=3/\Own a.n:=by
    rcases h.ld with q|q|q|q
    ·omega
    ·exact ⟨q.2.2.1,q.2.1⟩
    all_goals exact absurd q.1 (by omega)
   obtain ⟨f,hff⟩:∃f:Nat,m.b7=(f:Int):=⟨m.b7.toNat,by omega⟩
   have hvo:(d81 m.c8.toNat v0++m.a8).length<=40/\∀v∈d81 m.c8.toNat v0++m.a8,VI v:=⟨by simp;omega,fun v hv=>(d80.1 hv).elim (fun q=>by rw [(d9P.1 q).2];exact .inl rfl) (hkd.1.2 v)⟩
   obtain ⟨c,c1,c2⟩:=b8C (l:=a.n.b7.set (f:Int).toNat true) (c6g (by simp;omega));rw [hff] at hright;rw [hff,s8 (show f<a.n.b7.length by omega),d8Y,x6 (by omega),x6 (by simp;omega),show (⟨0,⟨false,⟨0,0⟩,⟨[],[],0,0⟩⟩⟩:n7)=v0 from rfl,c9c ⟨hl.2.bl,hl.2.bs⟩ hvo,d8Y,c1,d8Y,c2];cases htw:F7 (a.n.b7.set (f:Int).toNat true)
   ·simp only [e0P,S8];rw [d9D]
   ·rw [htw] at hright;simp only [e0O] at hright ⊢;have hni:NI ⟨a.n.Id,a.n.Acc,a.n.a6,a.n.Seq,2,a.n.a5,[],B2 a.n.f0 (d81 m.c8.toNat v0++m.a8),a.n.c9,a.n.a8,a.n.i4,a.n.i6,a.n.b8,a.n.d8⟩:=by
     rcases h.ld with q|q|q|q
     ·omega
     ·exact ⟨h.id,h.pr,h.vl,h.vs,h.kl,h.ks,h.sq,h.ql,h.qs,.inr (.inr (.inl ⟨rfl,⟨q.2.1.b1,q.2.1.b2,q.2.1.mod,q.2.1.pr,by have:=a85 a.n.f0 (d81 m.c8.toNat v0++m.a8);have:=hl.2.bl;have:=hvo.1;simp only at *;omega,fun v hv=>(a6v hv).elim (hl.2.bs v) (hvo.2 v)⟩,rfl,q.2.2.2.2.1,q.2.2.2.2.2⟩)),h.wt⟩
     all_goals exact absurd q.1 (by omega)
    rw [a7A (a:=⟨⟨a.n.Id,a.n.Acc,a.n.a6,a.n.Seq,2,a.n.a5,[],B2 a.n.f0 (d81 m.c8.toNat v0++m.a8),a.n.c9,a.n.a8,a.n.i4,a.n.i6,a.n.b8,a.n.d8⟩,a.out,a.told⟩) hni ho];rfl
  ·simp only [e0O,e0P];rw [a4M]
 ·rw [show (a.n.a9 != 1)=true by simpa using p1];simp only [e0O,e0F];rw [a4M]
theorem d23{a:m6}(h:NI a.n){m:l8}(hm:MI m)(ho:a.out.length<=800)(ht:a.told.length<=800):b1H a m=some (a00 a (a0l a.n m)):=by
 have hf:=hm.fr;unfold b1H a0l;by_cases p3:a.n.a9=3
 ·rw [show (a.n.a9 != 3)=false by simp [p3],d95];cases hb:m.a5 != a.n.a5
  ·simp only [e0P,d95];cases hs:m.c8 != (a.n.a6.length:Int)
   ·simp only [e0P];have hsl:m.c8=(a.n.a6.length:Int):=by simpa using hs
    obtain ⟨q1,q2,q3,q4,q5,q6,q7⟩:a.n.a9=3/\Own a.n/\a.n.b7=[]/\s9 a.n.c9=true/\a.n.a8.length=3/\a.n.a8[a.n.Id.toNat]?=some true/\a.n.a6.length<40:=by
     rcases h.ld with q|q|q|q
     ·omega
     ·omega
     ·omega
     ·exact q
    obtain ⟨f,hff⟩:∃f:Nat,m.b7=(f:Int):=⟨m.b7.toNat,by omega⟩
    obtain ⟨c,c1,c2⟩:=b8C (l:=a.n.a8.set (f:Int).toNat true) (c6g (by simp;omega));rw [hff,s8 (show f<a.n.a8.length by omega),d8Y,c1,d8Y,c2];cases htw:F7 (a.n.a8.set (f:Int).toNat true)
    ·simp only [e0P,a00,d9D]
    ·simp only [e0O];have hid:=h.id;have hni:NI ⟨a.n.Id,a.n.Acc,a.n.a6,a.n.Seq,a.n.a9,a.n.a5,a.n.b7,a.n.f0,a.n.c9,a.n.a8.set (f:Int).toNat true,a.n.i4,a.n.i6,a.n.b8,a.n.d8⟩:=
      ⟨h.id,h.pr,h.vl,h.vs,h.kl,h.ks,h.sq,h.ql,h.qs,.inr (.inr (.inr ⟨q1,q2,q3,q4,by simpa using q5,by
       show (a.n.a8.set f true)[a.n.Id.toNat]?=some true
       rw [e0o];split
       ·rw [if_pos (by omega)]
       ·exact q6,q7⟩)),h.wt⟩
     have l1:=a16 a.n.Id ⟨5,0,0,0,m.c8,a.n.c9,[]⟩;rw [a3e (by exact hid) (by simp only;omega),d8Y];simp only;rw [c4d (a:=⟨⟨a.n.Id,a.n.Acc,a.n.a6,a.n.Seq,a.n.a9,a.n.a5,a.n.b7,a.n.f0,a.n.c9,a.n.a8.set (f:Int).toNat true,a.n.i4,a.n.i6,a.n.b8,a.n.d8⟩,a.out++C2 a.n.Id ⟨5,0,0,0,m.c8,a.n.c9,[]⟩,a.told⟩) hni q7 q4 (by simp only [d9d];omega) (by simp only;omega),d8Y,hsl];simp only [a00,d9k]
   ·simp only [e0O];rw [b3J]
  ·simp only [e0O,e0P,e0F];rw [b3J]
 ·rw [show (a.n.a9 != 3)=true by simpa using p3];simp only [e0O,e0F];rw [b3J]
theorem d48{a:m6}(h:NI a.n){m:l8}(hm:MI m)(hk:m.a0=5)(ho:a.out.length<=800)(ht:a.told.length<=800)(hto:m.To=a.n.Id):b1x a m=some (a00 a (Z9 a.n m)):=by
 have hkd:=hm.kd.five hk;unfold b1x Z9;cases h1:decide (m.c8<(a.n.a6.length:Int))
 ·cases h2:decide (m.c8>(a.n.a6.length:Int))
  ·simp only [e0P];have hl:a.n.a6.length<40:=by simp at h1 h2;omega
   rw [c4d h hl hkd.2 (by omega) (by omega)];rfl
  ·simp only [e0P,e0O];rw [a4R (by omega)];simp only [d8Y,a00,G7,hto,d9D]
 ·simp only [e0O];rw [b3J]
theorem c8N{a:m6}(h:NI a.n){m:l8}(hm:MI m)(hk:m.a0=7)(ho:a.out.length<=800):b3D a m=some (S8 a (U5 a.n m)):=by
 have hql:=h.ql;obtain ⟨e1,e2⟩:s9 m.d7=true/\m.d7.i7=false:=by
  rcases hm.kd with q|q|q|q|q|q|q
  ·omega
  ·omega
  ·omega
  ·omega
  ·omega
  ·exact ⟨q.2.2.2.1,q.2.2.2.2.1⟩
  ·omega
 unfold b3D U5;rw [show decide ((a.n.d8.length:Int)>=4)=decide (4<=a.n.d8.length) by simp;omega,d8I (h.ok.2.2.1.fits (by decide))];cases a.n.a9==0
 ·simp only [e0P,d95];cases h4:decide (4<=a.n.d8.length)
  ·simp only [e0P,d95,d8Y];cases E7 a.n.a6 m.d7.a7
   ·simp only [e0P];have hni:NI {a.n with d8:=a.n.d8++[m.d7]}:=h.queue (by simp at h4 ⊢;omega) (by
     intro e he;rcases d80.1 he with q|q
     ·exact h.qs e q
     ·rw [d84.1 q];exact ⟨e1,e2⟩)
    rw [x6 (by omega),a7A (a:=⟨{a.n with d8:=a.n.d8++[m.d7]},a.out,a.told⟩) hni (by simp only;omega)];rfl
   ·simp only [e0O];rw [a4M]
  ·simp only [e0O,e0F];rw [a4M]
 ·simp only [e0O,e0F];rw [a4M]
theorem b0V{n:j6}(h:NI n):a4x n=some ⟨n,[],[]⟩:=by
 unfold a4x;rw [b3z h.ok];rfl
theorem d7H{l:List l8}(hl:l.length<=1000)(h:∀m∈l,MI m):z0 152 a4I l:=a0o (by omega) fun m hm=>(h m hm).ok
theorem b33{a:m6}(h:NI a.n)(ho:a.out.length<=1000)(hm:∀m∈a.out,MI m)(ht:a.told.length<=1000):a0j a=some (a.n,a.out,a.told,a):=by
 unfold a0j;rw [b3z h.ok,d8Y,c49 (d7H ho hm),d8Y,b8n (by omega)];rfl
theorem b5C{n:j6}{x:j6×List l8}(h:L7 n x)(hl:x.2.length<=1000):a0j ⟨x.1,x.2,[]⟩=some (x.1,x.2,[],⟨x.1,x.2,[]⟩):=b33 h.ni hl h.ms (by simp)
theorem b6Z(l:List m7)(prog:List m5):∀(f k:Nat) (regs:List Int) (rs:List p7) (ps:List o7),(X2 l prog f k regs rs ps).Code≠3
 | 0,_,_,_,_=>by simp [X2]
 | f+1,k,regs,rs,ps=>by
  unfold X2;cases prog[k]? with
  | none=>simp
  | some i=>
   simp only;cases i.a0==6
   ·cases i.a0==7
    ·cases (E4 l i regs rs ps).1.all I4
     ·simp
     ·exact b6Z l prog f _ _ _ _
    ·simp
   ·exact b6Z l prog f _ _ _ _
theorem c4M{l:List m7}(hb:C0 l=true)(p:List m5):((A6 l p).Code==3) = !z9 p:=by
 unfold A6;rw [hb,d9m];cases z9 p
 ·rfl
 ·simpa using b6Z l p _ _ _ _ _
theorem c5C{n:j6}(h:NI n):a8M n=some (u5 n.a6).1:=by
 unfold a8M;rw [a45 h.ok,d8Y,a2O.2 h];simp only [d9e,e0P];rw [d2I (okEntries.f h.ok.2.2.1),h.list];rfl
theorem c0X{prog:List m5}(h:z0 32 okT prog):s6 prog:=h.fits (by decide)
theorem d3h{n:j6}(h:NI n){prog:List m5}(hp:z0 32 okT prog):b1b n prog=some ((D5 n prog).1,(D5 n prog).2,[]):=by
 have hf:=c0X hp;have hs:=h.sq;have hr:=a8R h hf;have hlen:=c0i n prog;have e0:=b33 (a:=⟨n,[],[]⟩) h (by simp) (by simp) (by simp);rw [Y2] at hr hlen;unfold b1b;rw [a45 h.ok,d8Y,a2O.2 h,b0V h,Y2,b2B hf,c5C h];simp only [d9e,e0P,d8Y];have hc:((A6 (a0w n) prog).Code==3) = !z9 prog:=c4M (b2T h) prog;rw [show (u5 n.a6).1.i0=a0w n from rfl,c1m (a5y (b2T h)) hf];unfold H8 at hr hlen ⊢;rw [hc] at hr hlen ⊢;cases hb:n.i4
 ·cases hq:n.Seq==1000
  ·cases hpo:z9 prog
   ·simp only [d9u,e0O,e0P,e0,d8Y];rfl
   ·rw [hb,hq,hpo] at hr hlen;have hca:H8 n prog=true:=by unfold H8;rw [hc,hb,hq,hpo];rfl
    have hn:=h.asked hf hca;simp only [d9e,d9u,Bool.or_false,e0O,e0P,d8Y] at hr hlen ⊢;rw [B4 (by omega) (by omega)];have ha:(⟨⟨n.Id,n.Acc,n.a6,n.Seq+1,n.a9,n.a5,n.b7,n.f0,n.c9,n.a8,true,prog,⟨false,⟨n.Id,n.Seq+1⟩,A6 (a0w n) prog⟩,n.d8⟩,[],[]⟩:m6)=⟨F3 n prog,[],[]⟩:=rfl;have hj:∀x:j6×List l8,L7 n x->x.2.length<=3->b05 ⟨x.1,x.2,[]⟩=some (x.1,x.2,[]):=by
     intro x hx hl;unfold b05;rw [b5C hx (by omega)];rfl
    rw [ha];cases h2:n.a9==2
    ·rw [h2] at hr hlen;cases h0:n.a9==0
     ·rw [h0] at hr hlen;simp only [e0P,d8Y,j9.go] at hr hlen ⊢;exact hj _ hr hlen
     ·rw [h0] at hr hlen;simp only [e0P,e0O] at hr hlen ⊢;rw [a3e (a:=⟨F3 n prog,[],[]⟩) (by exact h.id) (by simp)];simp only [d8Y,j9.go,d9U];exact hj (F3 n prog,_) hr hlen
    ·rw [h2] at hr hlen;simp only [e0O] at hr hlen ⊢;rw [a7A (a:=⟨F3 n prog,[],[]⟩) hn (by simp)];simp only [d8Y,j9.go,S8,d9U];exact hj _ hr hlen
  ·simp only [e0O,e0P,e0,d8Y];rfl
 ·simp only [e0O,e0,d8Y];rfl
theorem d5c{b who:Int}(hb:0<=b/\b<=3000)(hw:0<=who/\who<=2):b1L b who=some (H3 b who):=by
 have e:∀i:Int,1<=i->i<=4->a0N who (b+i)=some (bif decide (b+i<=3000) then (bif d9x (b+i) 3==who then .ret (b+i) else .nxt (b+(i+1))) else .brk ()):=by
  intro i h1 h3;unfold a0N;rw [show decide (b+i>0)=true by simp;omega,b8y,B4 (by omega) (by omega),Int.add_assoc];cases hd:decide (b+i<=3000)
  ·rfl
  ·rw [show R6 (b+i)=d9x (b+i) 3 by
    unfold R6;rw [C7.2 ⟨by omega,by simpa using hd⟩];rfl]
   simp only [e0O,d8Y];cases d9x (b+i) 3==who<;>rfl
 have hmod:∀i:Int,1<=i->d9x (b+i) 3=(b+i) % 3:=fun i hi=>e0n (by omega)
 have e1:=e 1 (by omega) (by omega);have e2:=e 2 (by omega) (by omega);have e3:=e 3 (by omega) (by omega);have m1:=hmod 1 (by omega);have m2:=hmod 2 (by omega);have m3:=hmod 3 (by omega);unfold b1L H3;rw [show decide (b<0)=false by simp;omega,G2,show m9 who 0 2=true from C7.2 hw,B4 (by omega) (by omega)];simp only [e0P,d8Y,d9e];cases q1:decide (b+1<=3000)
 ·rw [q1] at e1;rw [E9 (body:=fun s:Int=>a0N who s) e1,show decide (b+2<=3000)=false by simp at q1 ⊢;omega,show decide (b+3<=3000)=false by simp at q1 ⊢;omega];rfl
 rw [q1] at e1;cases t1:d9x (b+1) 3==who;case true=>rw [t1] at e1;rw [a0r (body:=fun s:Int=>a0N who s) e1];rfl
 rw [t1] at e1;rw [F8 (body:=fun s:Int=>a0N who s) e1];cases q2:decide (b+2<=3000)
 ·rw [show (1:Int)+1=2 from rfl];rw [q2] at e2;rw [E9 (body:=fun s:Int=>a0N who s) e2,show decide (b+3<=3000)=false by simp at q2 ⊢;omega];rfl
 rw [q2] at e2;rw [show (1:Int)+1=2 from rfl];cases t2:d9x (b+2) 3==who;case true=>rw [t2] at e2;rw [a0r (body:=fun s:Int=>a0N who s) e2];rfl
 rw [t2] at e2;rw [F8 (body:=fun s:Int=>a0N who s) e2,show (2:Int)+1=3 from rfl];cases q3:decide (b+3<=3000)
 ·rw [q3] at e3;rw [E9 (body:=fun s:Int=>a0N who s) e3];rfl
 rw [q3] at e3;have t3:(d9x (b+3) 3==who)=true:=by
  simp only [beq_eq_false_iff_ne,beq_iff_eq] at t1 t2 ⊢;omega
 rw [t3] at e3;rw [a0r (body:=fun s:Int=>a0N who s) e3,t3];rfl
theorem c9Z{n:j6}(h:NI n):b18 n=some (M5 n):=by
 have hr:=a8i h;have hl:=c2N n;have hj:∀x:j6×List l8,L7 n x->x.2.length<=3->a8t ⟨x.1,x.2,[]⟩=some x:=by
  intro x hx hl;unfold a8t;rw [b5C hx (by omega)];rfl
 unfold b18;unfold M5 at hr hl ⊢;rw [a45 h.ok,d8Y,a2O.2 h,b0V h,d5c h.pr h.id];simp only [d9e,e0P,d8Y];cases hd:decide (H3 n.Acc.d9 n.Id<0)
 ·rw [hd] at hr hl;simp only [decide_eq_false_iff_not] at hd;obtain ⟨c1,c2⟩:=h.accOk;rcases b4g h.pr h.id with q|⟨q1,q2,q3,q4⟩
  ·omega
  ·have hpr:=h.pr;rw [show decide (H3 n.Acc.d9 n.Id>=0)=true by simp;omega];simp only [e0O,e0P,b69,d8Y] at hr hl ⊢;rw [b1z (a:=(a15 n).Acc) c1 c2,show C3 (a15 n).Acc (H3 n.Acc.d9 n.Id)=some ⟨H3 n.Acc.d9 n.Id,n.Acc.a8⟩ from b6z (a:=n.Acc) (by omega) q3 (by omega),d8Y,c2q (by exact h.id),d8Y];simp only;have ha:=a3e (a:=⟨⟨n.Id,⟨H3 n.Acc.d9 n.Id,n.Acc.a8⟩,n.a6,n.Seq,1,H3 n.Acc.d9 n.Id,W7 n.Id,n.Acc.a8,zE,[],n.i4,n.i6,n.b8,n.d8⟩,[],[]⟩) h.id (by simp) ⟨1,0,0,H3 n.Acc.d9 n.Id,(n.a6.length:Int),zE,[]⟩;refine (congrArg (fun x:Option m6=>((x.bind fun all=>some (j9.brk all)).bind fun x:j9 (j6×List l8) m6=>x.go some fun j=>a8t j)) ha).trans ?_;simp only [d8Y,j9.go,d9U];have e:=hj _ hr hl;exact e
 ·rw [hd] at hr hl;rw [show decide (H3 n.Acc.d9 n.Id>=0)=false by simp at hd ⊢;omega];simp only [e0P,e0O,d8Y,j9.go] at hr hl ⊢;exact hj (n,[]) hr hl
theorem d0J{n:j6}(h:NI n):b2m n=some ((K7 n).1,(K7 n).2,[]):=by
 have hr:=a7G h;have hl:=c5F n;have hj:∀x:j6×List l8,L7 n x->x.2.length<=6->b0M ⟨x.1,x.2,[]⟩=some (x.1,x.2,[]):=by
  intro x hx hl;unfold b0M;rw [b5C hx (by omega)];rfl
 have l0:=a16 n.Id ⟨8,0,0,0,(n.a6.length:Int),zE,[]⟩;unfold b2m;unfold K7 at hr hl ⊢;rw [a45 h.ok,d8Y,a2O.2 h,b0V h];simp only [d9e,e0P,d8Y];rw [a3e (a:=⟨n,[],[]⟩) (by exact h.id) (by simp)];simp only [d8Y,d9U];have l1:(C2 n.Id ⟨8,0,0,0,(n.a6.length:Int),⟨false,⟨0,0⟩,⟨[],[],0,0⟩⟩,[]⟩).length<=3:=l0;cases h1:n.a9==1
 ·cases h2:n.a9==2
  ·cases h3:n.a9==3
   ·cases hbz:n.i4
    ·rw [h1,h2,h3,hbz] at hr hl;simp only [e0P,d8Y,j9.go] at hr hl ⊢;have e:=hj _ hr hl;exact e
    ·rw [h1,h2,h3,hbz] at hr hl;simp only [e0P,e0O] at hr hl ⊢;rw [a3e (by exact h.id) (by simp only;omega)];simp only [d8Y,j9.go];have e:=hj _ hr hl;exact e
   ·rw [h1,h2,h3] at hr hl;simp only [e0P,e0O] at hr hl ⊢;rw [a3e (by exact h.id) (by simp only;omega)];simp only [d8Y,j9.go];have e:=hj _ hr hl;exact e
  ·rw [h1,h2] at hr hl;simp only [e0P,e0O] at hr hl ⊢;rw [a7A (by exact h) (by simp only;omega)];simp only [d8Y,j9.go];have e:=hj _ hr hl;exact e
 ·rw [h1] at hr hl;simp only [e0O] at hr hl ⊢;rw [a3e (by exact h.id) (by simp only;omega)];simp only [d8Y,j9.go];have e:=hj _ hr hl;exact e
theorem d0n{n:j6}(h:NI n):b3c n=some (Y5 n):=by
 unfold b3c;rw [a45 h.ok,d8Y,a2O.2 h];simp only [d9e,e0P];rw [show (⟨n.Id,n.Acc,n.a6,n.Seq,0,0,[],[],⟨false,⟨0,0⟩,⟨[],[],0,0⟩⟩,[],false,[],⟨false,⟨0,0⟩,⟨[],[],0,0⟩⟩,[]⟩:j6)=Y5 n from rfl,b3z h.fall.ok];rfl
theorem b9M{n:j6}(h:NI n){m:l8}(hto:m.To=n.Id):∀(d k:Nat) (o:List l8),n.a6.length-k=d->o.length<=k->p6 (fun s:Int×m6=>a3j m s.1 s.2) ((k:Int),⟨n,o,[]⟩)=some (.brk ⟨n,o++((d87 d).map fun j=>V9 n m (k+j)).flatten,[]⟩)
 | 0,k,o,hd,ho=>by
  have hkl:=h.kl;refine (E9 (body:=fun s:Int×m6=>a3j m s.1 s.2) (b:=⟨n,o,[]⟩) ?_).trans (by simp);unfold a3j;rw [show decide ((k:Int)<(n.a6.length:Int))=false by simp;omega];rfl
 | d+1,k,o,hd,ho=>by
  have hkl:=h.kl;have hlt:k<n.a6.length:=by omega
  have hb:a3j m (k:Int) ⟨n,o,[]⟩=some (.nxt (((k+1:Nat):Int),⟨n,o++V9 n m k,[]⟩)):=by
   unfold a3j;rw [x7 _ k hlt,e0O];simp only;rw [s8 hlt,d8Y,a4R (by simp only;omega),c2K m hlt,J2 (h.ok.2.2.1.fits (by decide)) hlt];simp only [d8Y,G7,hto]
  rw [F8 (body:=fun s:Int×m6=>a3j m s.1 s.2) (s:=((k:Int),⟨n,o,[]⟩)) hb,b9M h hto d (k+1) _ (by omega) (by rw [c2K m hlt];simp;omega)];rw [List.range_succ_eq_map,d9s,d9n,d9k,e0l];simp only [e0B,Function.comp_def,Nat.succ_eq_add_one,Nat.add_assoc,Nat.add_comm 1]
theorem d0r{n:j6}(h:NI n){m:l8}(hm:MI m)(hto:m.To=n.Id):b2S n m=some (L0 n m):=by
 have hr:=b1i h hm;have hl:=b5v h m;have hj:∀x:j6×List l8×List r9,a3R n x->x.2.1.length<=60->x.2.2.length<=1->b3o ⟨x.1,x.2.1,x.2.2⟩=some x:=by
  intro x hx h1 h2;unfold b3o;rw [b33 hx.ni (by simp only;omega) hx.ms (by simp only;omega)];rfl
 have hz:NI (⟨n,[],[]⟩:m6).n:=h;unfold b2S;unfold L0 at hr hl ⊢;rw [a45 h.ok,d8Y,a2O.2 h,b0V h,c0o hm.ok,c6d.2 hm,show (m.To != n.Id)=false by simpa using hto];simp only [d9e,e0P,d8Y];by_cases k1:m.a0=1
 ·rw [show (m.a0==1)=true by simpa using k1] at hr hl ⊢;simp only [e0O] at hr hl ⊢;rw [d5W (a:=⟨n,[],[]⟩) h hm (by simp) hto];have e:=hj _ hr hl.1 hl.2;exact e
 rw [show (m.a0==1)=false by simpa using k1] at hr hl ⊢;by_cases k2:m.a0=2
 ·rw [show (m.a0==2)=true by simpa using k2] at hr hl ⊢;simp only [e0O,e0P] at hr hl ⊢;rw [c7l (a:=⟨n,[],[]⟩) h hm k2 (by simp)];have e:=hj _ hr hl.1 hl.2;exact e
 rw [show (m.a0==2)=false by simpa using k2] at hr hl ⊢;by_cases k3:m.a0=3
 ·rw [show (m.a0==3)=true by simpa using k3] at hr hl ⊢;simp only [e0O,e0P] at hr hl ⊢;rw [d8w (a:=⟨n,[],[]⟩) h hm (by simp) hto];have e:=hj _ hr hl.1 hl.2;exact e
 rw [show (m.a0==3)=false by simpa using k3] at hr hl ⊢;by_cases k4:m.a0=4
 ·rw [show (m.a0==4)=true by simpa using k4] at hr hl ⊢;simp only [e0O,e0P] at hr hl ⊢;rw [d23 (a:=⟨n,[],[]⟩) h hm (by simp) (by simp)];have e:=hj _ hr hl.1 hl.2;exact e
 rw [show (m.a0==4)=false by simpa using k4] at hr hl ⊢;by_cases k5:m.a0=5
 ·rw [show (m.a0==5)=true by simpa using k5] at hr hl ⊢;simp only [e0O,e0P] at hr hl ⊢;rw [d48 (a:=⟨n,[],[]⟩) h hm k5 (by simp) (by simp) hto];have e:=hj _ hr hl.1 hl.2;exact e
 rw [show (m.a0==5)=false by simpa using k5] at hr hl ⊢;by_cases k6:m.a0=6
 ·rw [show (m.a0==6)=true by simpa using k6] at hr hl ⊢;obtain ⟨c1,c2⟩:=h.accOk;simp only [e0O,e0P] at hr hl ⊢;rw [b1z c1 c2];cases hp:C3 n.Acc m.a5
  ·rw [hp] at hr;simp only [d8Y,b2y,j9.go];have e:=hj _ hr hl.1 hl.2;exact e
  ·rw [hp] at hr;simp only [d8Y,b2y,j9.go];have e:=hj _ hr hl.1 hl.2;exact e
 rw [show (m.a0==6)=false by simpa using k6] at hr hl ⊢;by_cases k7:m.a0=7
 ·rw [show (m.a0==7)=true by simpa using k7] at hr hl ⊢;simp only [e0O,e0P] at hr hl ⊢;rw [c8N (a:=⟨n,[],[]⟩) h hm k7 (by simp)];have e:=hj _ hr hl.1 hl.2;exact e
 rw [show (m.a0==7)=false by simpa using k7] at hr hl ⊢;cases k8:m.a0==8
 ·rw [k8] at hr hl;simp only [e0P,d8Y,j9.go] at hr hl ⊢;have e:=hj _ hr hl.1 hl.2;exact e
 ·rw [k8] at hr hl;have hs:=hm.sl;obtain ⟨k,hk⟩:∃k:Nat,m.c8=(k:Int):=⟨m.c8.toNat,by omega⟩
  simp only [e0P,e0O] at hr hl ⊢;unfold a0X at hr hl ⊢;rw [hk] at hr hl ⊢;rw [d9q] at hr hl ⊢;rw [b9M h hto (n.a6.length-k) k [] rfl (by simp)];have e:=hj _ hr hl.1 hl.2;exact e
theorem b41{l:List l8}(hl:s6 l):∀(d k:Nat) (net:List l8),net.length<=40->l.length-k=d->p6 (fun s:(List l8)×Int=>a1D l s.1 s.2) (net,(k:Int))=some (.brk (net++(l.drop k).take (40-net.length)))
 | 0,k,net,hn,hd=>by
  refine (E9 (body:=fun s:(List l8)×Int=>a1D l s.1 s.2) (b:=net) ?_).trans (by rw [d9v (by omega)];simp);unfold a1D;rw [show decide ((k:Int)<(l.length:Int))=false by simp;omega];rfl
 | d+1,k,net,hn,hd=>by
  have hlt:k<l.length:=by omega
  rw [d9F hlt];by_cases h40:net.length<40
  ·rw [F8 (body:=fun s:(List l8)×Int=>a1D l s.1 s.2) (t:=(net++[l[k]],((k+1:Nat):Int))) (by
    unfold a1D b1Z;rw [x7 _ k hlt,e0O,s8 hlt,d8Y,show decide ((net.length:Int)<40)=true by simp;omega,e0O,x6 (by simp only;omega),J2 hl hlt];rfl),b41 hl d (k+1) _ (by simp;omega) (by omega),d9d,d90,show 40-net.length=(40-(net.length+1))+1 by omega,List.take_succ_cons,d9k]
   rfl
  ·rw [F8 (body:=fun s:(List l8)×Int=>a1D l s.1 s.2) (t:=(net,((k+1:Nat):Int))) (by
    unfold a1D b1Z;rw [x7 _ k hlt,e0O,s8 hlt,d8Y,show decide ((net.length:Int)<40)=false by simp;omega,e0P,J2 hl hlt];rfl),b41 hl d (k+1) _ hn (by omega),show 40-net.length=0 by omega,d9S,d9S]
theorem b6r{l:List r9}(hl:s6 l):∀(d k:Nat) (net:List r9),net.length<=60->l.length-k=d->p6 (fun s:(List r9)×Int=>a17 l s.1 s.2) (net,(k:Int))=some (.brk (net++(l.drop k).take (60-net.length)))
 | 0,k,net,hn,hd=>by
  refine (E9 (body:=fun s:(List r9)×Int=>a17 l s.1 s.2) (b:=net) ?_).trans (by rw [d9v (by omega)];simp);unfold a17;rw [show decide ((k:Int)<(l.length:Int))=false by simp;omega];rfl
 | d+1,k,net,hn,hd=>by
  have hlt:k<l.length:=by omega
  rw [d9F hlt];by_cases h40:net.length<60
  ·rw [F8 (body:=fun s:(List r9)×Int=>a17 l s.1 s.2) (t:=(net++[l[k]],((k+1:Nat):Int))) (by
    unfold a17 b3s;rw [x7 _ k hlt,e0O,s8 hlt,d8Y,show decide ((net.length:Int)<60)=true by simp;omega,e0O,x6 (by simp only;omega),J2 hl hlt];rfl),b6r hl d (k+1) _ (by simp;omega) (by omega),d9d,d90,show 60-net.length=(60-(net.length+1))+1 by omega,List.take_succ_cons,d9k]
   rfl
  ·rw [F8 (body:=fun s:(List r9)×Int=>a17 l s.1 s.2) (t:=(net,((k+1:Nat):Int))) (by
    unfold a17 b3s;rw [x7 _ k hlt,e0O,s8 hlt,d8Y,show decide ((net.length:Int)<60)=false by simp;omega,e0P,J2 hl hlt];rfl),b6r hl d (k+1) _ hn (by omega),show 60-net.length=0 by omega,d9S,d9S]
theorem a65{w:j8}(hn:w.c6.length=3)(hnet:w.g8.length<=40)(htl:w.Told.length<=60){n:j6}(hid:0<=n.Id/\n.Id<=2){l:List l8}(hl:l.length<=100){t:List r9}(ht:t.length<=100):a2m w n l t=some (a1R (M7 (D9 w n.Id n) l) t):=by
 obtain ⟨k,hk⟩:∃k:Nat,n.Id=(k:Int):=⟨n.Id.toNat,by omega⟩
 unfold a2m;rw [hk,s8 (show k<w.c6.length by omega),d8Y];rw [show p6 (fun s:(List l8)×Int=>a1D l s.1 s.2) (w.g8,0)=_ from b41 (by unfold s6;omega) l.length 0 w.g8 hnet (by omega)];simp only [d8Y,j9.go,b4Z];rw [show p6 (fun s:(List r9)×Int=>a17 t s.1 s.2) (w.Told,0)=_ from b6r (by unfold s6;omega) t.length 0 w.Told htl (by omega)];simp only [d8Y,j9.go,b5x,e0c,hk];rfl
theorem c9k{l:List l8}{k:Nat}(hk:k<l.length)(hl:l.length<=100):a8F l (k:Int)=some (l.take k++l.drop (k+1)):=by
 unfold a8F;rw [B4 (by omega) (by omega)];have e1:((k:Int)+1).toNat=k+1:=by omega
 have l1:((l.drop 0).take ((k:Int).toNat-0)).length<=100:=by simp;omega
 have l2:((l.drop (k+1)).take (l.length-(k+1))).length<=100:=by simp;omega
 rw [x6 (by omega),x6 (by simp only [List.length_nil];omega),x6 (by omega),e1,x6 (by simp only [d9d,List.length_nil];omega)];rw [c3I];simp
theorem d2T(n:j6)(p:List m5):(H8 n p=true/\(D5 n p).1.Seq=n.Seq+1/\(D5 n p).1.b8.a7=⟨n.Id,n.Seq+1⟩)\/(H8 n p=false/\D5 n p=(n,[])):=by
 cases hc:H8 n p
 ·right
  rw [Y2,hc];exact ⟨rfl,rfl⟩
 ·left
  refine ⟨rfl,?_,?_⟩
  ·rw [Y2,hc];simp only [e0O];cases n.a9==2
   ·rfl
   ·exact (b2o (F3 n p)).seq
  ·rw [b7D hc];rfl
def onN(w:j8)(e:F9):j8:=
 bif e.a0==1 then a0T w e.A e.i6 else
 bif e.a0==5 then M7 (D9 w e.A (M5 (u7 w e.A)).1) (M5 (u7 w e.A)).2 else
 bif e.a0==6 then M7 (D9 w e.A (K7 (u7 w e.A)).1) (K7 (u7 w e.A)).2 else
 bif e.a0==7 then D9 w e.A (Y5 (u7 w e.A)) else w
theorem b66(w:j8)(e:F9):E0 w e=bif e.a0==2||(e.a0==3||e.a0==4) then Z0 w e else bif m9 e.A 0 2 then onN w e else w:=by
 unfold E0 onN;cases e.a0==2||(e.a0==3||e.a0==4)
 ·cases m9 e.A 0 2<;>rfl
 ·rfl
theorem d3B{w:j8}(h:WI w){e:F9}(he:a1B e)(hi:m9 e.A 0 2=true):a3K w e=some (onN w e):=by
 rw [C7] at hi;obtain ⟨i,hA⟩:∃i:Nat,e.A=(i:Int):=⟨e.A.toNat,by omega⟩
 obtain ⟨n,hg,hn,hid,hni,hlt⟩:=a1j h (i:=i) (by omega);have hal:=h.al;unfold a3K onN;rw [hA,a9u,hg,d8Y,hn];cases e.a0==1
 ·cases e.a0==5
  ·cases e.a0==6
   ·cases e.a0==7
    ·rfl
    ·simp only [e0O,e0P];rw [d0n hni,d8Y,a65 h.nl h.ml h.tl (by exact hni.id) (by simp) (by simp),d8Y,a7y,d7w];simp only [d8Y,j9.go,b23];rw [show (Y5 n).Id=(i:Int) from hid]
   ·simp only [e0O,e0P];have hr:=a7G hni;have hl:=c5F n;rw [d0J hni,d8Y];simp only;rw [a65 h.nl h.ml h.tl (by rw [hr.id];exact hni.id) (by omega) (by simp),d8Y,a7y,hr.id,hid];rfl
  ·simp only [e0O,e0P];have hr:=a8i hni;have hl:=c2N n;rw [c9Z hni,d8Y,a65 h.nl h.ml h.tl (by rw [hr.id];exact hni.id) (by omega) (by simp),d8Y,a7y,hr.id,hid];rfl
 ·simp only [e0O];unfold a0T;rw [show decide ((w.g9.length:Int)>=60)=decide (60<=w.g9.length) by simp;omega];cases decide (60<=w.g9.length)
  ·simp only [e0P];have hr:=a8R hni (c0X he);have hl:=c0i n e.i6;rw [d3h hni he,d8Y];simp only;rw [a65 h.nl h.ml h.tl (by rw [hr.id];exact hni.id) (by omega) (by simp),d8Y,a7y,hr.id,hid,hn];rcases d2T n e.i6 with ⟨c1,c2,c3⟩|⟨c1,c2⟩
   ·rw [show ((D5 n e.i6).1.Seq != n.Seq)=true by rw [c2];simp;omega,show decide ((D5 n e.i6).1.Seq>n.Seq)=true by rw [c2];simp;omega];simp only [e0O];rw [x6 (by show (w.g9.length+1)*40<=_;omega)];simp only [d8Y,j9.go,b23];rw [c3,c2,hid];rfl
   ·rw [c2,show (n.Seq != n.Seq)=false by simp,show decide (n.Seq>n.Seq)=false by simp];rfl
  ·rfl
theorem d71{w:j8}(h:WI w){e:F9}{k:Nat}(hA:e.A=(k:Int))(hk:k<w.g8.length)(hkd:(e.a0==2||(e.a0==3||e.a0==4))=true):a4V w e=some (Z0 w e):=by
 have hml:=h.ml;unfold a4V Z0;rw [hA,s8 hk,d8Y,show decide (0<=(k:Int))=true by simp,d9q,d8Z hk];have hm:=h.ms _ (d85 hk);generalize w.g8[k]=m at hm;have hof:=c9k hk (by omega);have ht:=hm.to;obtain ⟨t,htt⟩:∃t:Nat,m.To=(t:Int):=⟨m.To.toNat,by omega⟩
 simp only [e0O];by_cases k2:e.a0=2
 ·rw [show (e.a0==2)=true by simpa using k2,show (e.a0==4)=false by simp [k2],show (e.a0==3)=false by simp [k2]];simp only [e0O,e0P];have ho:=h.off (k:Int);obtain ⟨n,hg,hn,hid,hni,hlt⟩:=a1j ho (i:=t) (by omega);have hn':u7 w (t:Int)=n:=hn;have hg':w.c6[t]?=some n:=hg;have hr:=b1i hni hm;obtain ⟨l1,l2⟩:=b5v hni m;rw [hof,d8Y,htt,a9u,hg',d8Y,d0r hni hm (htt.trans hid.symm),d8Y,a65 (w:=⟨w.c6,w.g8.take k++w.g8.drop (k+1),w.g9,w.Told⟩) h.nl ho.ml h.tl (by rw [hr.id];exact hni.id) (by omega) (by omega),d8Y,hn',hr.id,hid];rfl
 ·rw [show (e.a0==2)=false by simpa using k2];cases k3:e.a0==3
  ·rw [show (e.a0==4)=true by rw [show (e.a0==2)=false by simpa using k2,k3] at hkd;simpa using hkd];simp only [e0O,e0P];obtain ⟨n,hg,hn,hid,hni,hlt⟩:=a1j h (i:=t) (by omega);rw [htt,a9u,hg,d8Y,a65 h.nl h.ml h.tl hni.id (by simp) (by simp),d8Y,a7y,hid,d5v hg];rfl
  ·rw [show (e.a0==4)=false by simp only [beq_iff_eq] at k3;simp [k3]];simp only [e0O,e0P];rw [hof];rfl
theorem b2i{w:j8}(h:WI w){e:F9}(he:a1B e):a4F w e=some (E0 w e):=by
 have hd:=b1l h he;have hml:=h.ml;have hcp:Z6 w=some w:=a92 h.ok;have hcd:Z6 (E0 w e)=some (E0 w e):=a92 hd.ok;have hin:l9 ((w.c6.length:Int)-1)=2:=by rw [h.nl];rfl
 have hnode:(e.a0==2||(e.a0==3||e.a0==4))=false->((A0 e.A 0 2).bind fun in_=>bif in_ then (a3K w e).bind fun o=>some (j9.brk o) else some (j9.brk w):Option (j9 j8 j8))=some (.brk (E0 w e)):=by
  intro hk;rw [G2,d8Y,b66,hk];cases hi:m9 e.A 0 2
  ·rfl
  ·simp only [e0O,e0P];rw [d3B h he hi];rfl
 have hmsg:(e.a0==2||(e.a0==3||e.a0==4))=true->((A0 e.A 0 (l9 ((w.g8.length:Int)-1))).bind fun in_=>bif in_ then (a4V w e).bind fun o=>some (j9.brk o) else some (j9.brk w):Option (j9 j8 j8))=some (.brk (E0 w e)):=by
  intro hk;rw [B4 (by omega) (by omega),G2,d8Y,b66,hk];cases hi:m9 e.A 0 ((w.g8.length:Int)-1)
  ·simp only [e0O,e0P];rw [show Z0 w e=w by
    unfold Z0;cases h0:decide (0<=e.A)
    ·rfl
    ·have:¬(0<=e.A/\e.A<=(w.g8.length:Int)-1):=fun q=>by rw [C7.2 q] at hi;cases hi
     have h0':0<=e.A:=of_decide_eq_true h0;rw [d9E (by omega)];rfl]
  ·rw [C7] at hi;simp only [e0O];rw [d71 h (k:=e.A.toNat) (by omega) (by omega) hk];rfl
 unfold a4F;rw [hcp,d8Y,hin];by_cases k1:e.a0=1
 ·have hf:(e.a0==2||(e.a0==3||e.a0==4))=false:=by simp [k1]
  rw [show (e.a0==1)=true by simpa using k1];simp only [e0O];rw [hnode hf];simp only [d8Y,j9.go,b46,hcd]
 rw [show (e.a0==1)=false by simpa using k1];by_cases k5:e.a0=5
 ·have hf:(e.a0==2||(e.a0==3||e.a0==4))=false:=by simp [k5]
  rw [show (e.a0==5)=true by simpa using k5];simp only [e0O,e0P];rw [hnode hf];simp only [d8Y,j9.go,b7x,hcd]
 rw [show (e.a0==5)=false by simpa using k5];by_cases k6:e.a0=6
 ·have hf:(e.a0==2||(e.a0==3||e.a0==4))=false:=by simp [k6]
  rw [show (e.a0==6)=true by simpa using k6];simp only [e0O,e0P];rw [hnode hf];simp only [d8Y,j9.go,b49,hcd]
 rw [show (e.a0==6)=false by simpa using k6];simp only [e0P];have fin:∀X:Option (j9 j8 j8),X=some (.brk (E0 w e))->(X.bind fun x=>x.go some fun j=>b0z j)=some (E0 w e):=by
  intro X hX;rw [hX];simp only [d8Y,j9.go,b0z,hcd]
 refine fin _ ?_;by_cases k7:e.a0=7
 ·rw [show (e.a0==7)=true by simpa using k7];exact hnode (by simp [k7])
 rw [show (e.a0==7)=false by simpa using k7];by_cases k2:e.a0=2
 ·rw [show (e.a0==2)=true by simpa using k2];exact hmsg (by simp [k2])
 by_cases k3:e.a0=3
 ·rw [show (e.a0==2)=false by simpa using k2,show (e.a0==3)=true by simpa using k3];exact hmsg (by simp [k3])
 by_cases k4:e.a0=4
 ·rw [show (e.a0==2)=false by simpa using k2,show (e.a0==3)=false by simpa using k3,show (e.a0==4)=true by simpa using k4];exact hmsg (by simp [k4])
 have e2:(e.a0==2)=false:=by simpa using k2
 have e3:(e.a0==3)=false:=by simpa using k3
 have e4:(e.a0==4)=false:=by simpa using k4
 rw [e2,e3,e4,b66,e2,e3,e4];have:onN w e=w:=by
  unfold onN;rw [show (e.a0==1)=false by simpa using k1,show (e.a0==5)=false by simpa using k5,show (e.a0==6)=false by simpa using k6,show (e.a0==7)=false by simpa using k7];rfl
 rw [this];cases m9 e.A 0 2<;>rfl
theorem c8V{w:j8}(h:WI w){e:F9}(he:a1B e):b0m w e=some (E0 w e):=by
 unfold b0m;rw [a8y h.ok,d8Y,b4P.2 h];simp only [d9e,e0P];rw [b2i h he];rfl
def D3(i:Int):Prop:=0<=i/\i<=2
abbrev VR:=Int->Nat->Int->l7->Prop
abbrev PR:=Int->Nat->l7->Prop
abbrev MS:=l8->Prop
def a2f(V:VR)(s:Nat)(e:l7):Prop := ∃b p q,D3 p/\D3 q/\p≠q/\V p s b e/\V q s b e
structure Z2(N:Int->j6)(V:VR)(n:j6)(q:Int):Prop where
 pr:n.a5<=(N q).Acc.d9
 cv:∀s b e,n.a6.length<=s->b<n.a5->V q s b e->∃v,n.f0[s]?=some v/\b<=v.a5
def Quo(p:Int->Prop):Prop := ∃a b,D3 a/\D3 b/\a≠b/\p a/\p b
structure LD(N:Int->j6)(V:VR)(P:PR)(n:j6):Prop where
 bs:n.a9≠0->∀s v,n.f0[s]?=some v->v.a5>0->v.a5<n.a5/\∃q,V q s v.a5 v.d7
 l1:n.a9=1->(∀s e,¬P n.a5 s e)/\∀q,D3 q->n.b7[q.toNat]?=some true->Z2 N V n q
 l2:n.a9=2->(∀s e,P n.a5 s e->s<n.a6.length)/\Quo (Z2 N V n)
 l3:n.a9=3->P n.a5 n.a6.length n.c9/\(∀s e,P n.a5 s e->s<=n.a6.length)/\Quo (Z2 N V n)/\∀q,D3 q->n.a8[q.toNat]?=some true->V q n.a6.length n.a5 n.c9
structure MV(N:Int->j6)(V:VR)(P:PR)(m:l8):Prop where
 k1:m.a0=1->d9x m.a5 3=m.b7/\m.c8<=(N m.b7).a6.length
 k2:m.a0=2->m.c8<=(N m.To).a6.length/\m.a5<=(N m.b7).Acc.d9/\(∀s b e,m.c8.toNat<=s->b<m.a5->V m.b7 s b e->∃v,m.a8[s-m.c8.toNat]?=some v/\b<=v.a5)/\∀k v,m.a8[k]?=some v->v.a5>0->v.a5<=m.a5/\V m.b7 (m.c8.toNat+k) v.a5 v.d7
 k3:m.a0=3->P m.a5 m.c8.toNat m.d7
 k4:m.a0=4->∃e,V m.b7 m.c8.toNat m.a5 e
 k5:m.a0=5->a2f V m.c8.toNat m.d7
def Sf(N:Int->j6)(V:VR)(b:Int)(s:Nat)(e:l7)(q:Int):Prop:=
 b<=(N q).Acc.d9/\∀b' e',b'<b->V q s b' e'->∃b1 q1,b'<=b1/\b1<b/\V q1 s b1 e
structure PX(N:Int->j6)(V:VR)(P:PR)(M:MS):Prop where
 ni:∀i,D3 i->NI (N i)/\(N i).Id=i
 vp:∀i s b e,V i s b e->D3 i/\P b s e/\1<=b/\b<=(N i).Acc.d9
 cur:∀i s v,D3 i->(N i).Acc.a8[s]?=some v->v.a5>0->V i s v.a5 v.d7
 max:∀i s b e,V i s b e->∃v,(N i).Acc.a8[s]?=some v/\b<=v.a5
 pu:∀b s e e',P b s e->P b s e'->e=e'
 po:∀b s e,P b s e->1<=b/\b<=(N (d9x b 3)).Acc.d9
 safe:∀b s e,P b s e->Quo (Sf N V b s e)
 ld:∀i,D3 i->LD N V P (N i)
 kn:∀i s e,D3 i->(N i).a6[s]?=some e->a2f V s e
 ms:∀m,M m->MI m/\MV N V P m
section
variable {N:Int->j6} {V:VR} {P:PR} {M:MS}
end
def upd(N:Int->j6)(i:Int)(n:j6):Int->j6:=fun j=>if j=i then n else N j
theorem M2(N:Int->j6)(i:Int)(n:j6):upd N i n i=n:=if_pos rfl
theorem a6t{N:Int->j6}{i j:Int}(n:j6)(h:j≠i):upd N i n j=N j:=if_neg h
theorem a0W(N:Int->j6)(i:Int)(a b:j6):upd (upd N i a) i b=upd N i b:=by
 funext j;unfold upd;split<;>rfl
theorem a5C(N:Int->j6)(i:Int):upd N i (N i)=N:=by
 funext j;unfold upd;split
 ·rename_i h;rw [h]
 ·rfl
theorem U7.own{n:j6}(h:U7 n)(hp:n.a9≠0):Own n:=by
 rcases h with q|q|q|q
 ·exact absurd q.1 hp
 ·exact q.2.1
 ·exact q.2.1
 ·exact q.2.1
structure U0(N:Int->j6)(V:VR)(P:PR)(M:MS)(i:Int)(n':j6)(V':VR)(P':PR)(M':MS):Prop where
 ni:NI n'
 id:n'.Id=i
 pr:(N i).Acc.d9<=n'.Acc.d9
 kl:(N i).a6.length<=n'.a6.length
 v1:∀q s b e,V q s b e->V' q s b e
 v2:∀q s b e,V' q s b e->V q s b e\/(q=i/\(N i).Acc.d9<=b/\1<=b/\b<=n'.Acc.d9/\P' b s e)
 p1:∀b s e,P b s e->P' b s e
 p2:∀b s e,P' b s e->P b s e\/(b=n'.a5/\n'.a9=3/\(∀e',P' b s e'->e'=e)/\Quo (Sf (upd N i n') V' b s e))
 cur:∀s v,n'.Acc.a8[s]?=some v->v.a5>0->V' i s v.a5 v.d7
 max:∀s b e,V' i s b e->∃v,n'.Acc.a8[s]?=some v/\b<=v.a5
 ld:LD (upd N i n') V' P' n'
 kn:∀s e,n'.a6[s]?=some e->a2f V' s e
 ms:∀m,M' m->M m\/(MI m/\MV (upd N i n') V' P' m)
section
variable {N:Int->j6} {V:VR} {P:PR} {M:MS} {i:Int} {n':j6} {V':VR} {P':PR} {M':MS}
theorem U0.prm(c:U0 N V P M i n' V' P' M')(q:Int):(N q).Acc.d9<=(upd N i n' q).Acc.d9:=by
 unfold upd;split
 ·rename_i h;rw [h];exact c.pr
 ·exact d9p _
theorem U0.len(c:U0 N V P M i n' V' P' M')(q:Int):(N q).a6.length<=(upd N i n' q).a6.length:=by
 unfold upd;split
 ·rename_i h;rw [h];exact c.kl
 ·exact d9B _
theorem U0.old(c:U0 N V P M i n' V' P' M'){q:Int}{s:Nat}{b x:Int}{e:l7}(hx:x<=(N q).Acc.d9)(hb:b<x)(v:V' q s b e):V q s b e:=by
 rcases c.v2 q s b e v with v|⟨rfl,v1,_⟩
 ·exact v
 ·omega
theorem U0.cov(c:U0 N V P M i n' V' P' M'){n:j6}{q:Int}(h:Z2 N V n q):Z2 (upd N i n') V' n q:=
 ⟨d9I h.pr (c.prm q),fun s b e hs hb v=>h.cv s b e hs hb (c.old h.pr hb v)⟩
theorem Quo.imp{p q:Int->Prop}(h:Quo p)(hi:∀a,D3 a->p a->q a):Quo q:=by
 obtain ⟨a,b,ha,hb,hab,pa,pb⟩:=h;exact ⟨a,b,ha,hb,hab,hi a ha pa,hi b hb pb⟩
theorem U0.sf(c:U0 N V P M i n' V' P' M'){b:Int}{s:Nat}{e:l7}{q:Int}(h:Sf N V b s e q):Sf (upd N i n') V' b s e q:=
 ⟨d9I h.1 (c.prm q),fun b' e' hb v=>by
  obtain ⟨b1,q1,x1,x2,x3⟩:=h.2 b' e' hb (c.old h.1 hb v);exact ⟨b1,q1,x1,x2,c.v1 _ _ _ _ x3⟩⟩
theorem a2f.mono(h:∀q s b e,V q s b e->V' q s b e){s:Nat}{e:l7}(hc:a2f V s e):a2f V' s e:=by
 obtain ⟨b,p,q,hp,hq,hpq,v1,v2⟩:=hc;exact ⟨b,p,q,hp,hq,hpq,h _ _ _ _ v1,h _ _ _ _ v2⟩
theorem U0.ldo(c:U0 N V P M i n' V' P' M')(hi:D3 i){n:j6}(hn:NI n)(hne:n.Id≠i)(h:LD N V P n):LD (upd N i n') V' P' n:=by
 have hp:n.a9≠0->∀s e,P' n.a5 s e->P n.a5 s e:=by
  intro h0 s e hp;rcases c.p2 _ _ _ hp with q|⟨hb,h3,_⟩
  ·exact q
  ·exfalso
   have o1:=(hn.ld.own h0).mod;have o2:=(c.ni.ld.own (by omega)).mod;rw [<-hb,o1,c.id] at o2;exact hne o2
 refine ⟨fun h0 s v hs hv => ?_,fun h1 => ?_,fun h2 => ?_,fun h3 => ?_⟩
 ·obtain ⟨x1,q,x2⟩:=h.bs h0 s v hs hv;exact ⟨x1,q,c.v1 _ _ _ _ x2⟩
 ·obtain ⟨x1,x2⟩:=h.l1 h1;exact ⟨fun s e q=>x1 s e (hp (by omega) s e q),fun q hq hf=>c.cov (x2 q hq hf)⟩
 ·obtain ⟨x1,x2⟩:=h.l2 h2;exact ⟨fun s e q=>x1 s e (hp (by omega) s e q),x2.imp fun a _=>c.cov⟩
 ·obtain ⟨x1,x2,x3,x4⟩:=h.l3 h3;exact ⟨c.p1 _ _ _ x1,fun s e q=>x2 s e (hp (by omega) s e q),x3.imp fun a _=>c.cov,fun q hq hv=>c.v1 _ _ _ _ (x4 q hq hv)⟩
theorem U0.msg(c:U0 N V P M i n' V' P' M'){m:l8}(h:MV N V P m):MV (upd N i n') V' P' m:=by
 refine ⟨fun k => ?_,fun k => ?_,fun k=>c.p1 _ _ _ (h.k3 k),fun k => ?_,fun k=>(h.k5 k).mono c.v1⟩
 ·obtain ⟨x1,x2⟩:=h.k1 k;have:=c.len m.b7;exact ⟨x1,by omega⟩
 ·obtain ⟨x1,x2,x3,x4⟩:=h.k2 k;have:=c.len m.To;refine ⟨by omega,d9I x2 (c.prm _),fun s b e hs hb v=>x3 s b e hs hb (c.old x2 hb v),fun k v hk hv => ?_⟩;obtain ⟨y1,y2⟩:=x4 k v hk hv;exact ⟨y1,c.v1 _ _ _ _ y2⟩
 ·obtain ⟨e,x⟩:=h.k4 k;exact ⟨e,c.v1 _ _ _ _ x⟩
theorem PX.step(h:PX N V P M)(hi:D3 i)(c:U0 N V P M i n' V' P' M'):PX (upd N i n') V' P' M':=by
 have hpo:∀b s e,P' b s e->1<=b/\b<=(upd N i n' (d9x b 3)).Acc.d9:=by
  intro b s e hp;rcases c.p2 _ _ _ hp with q|⟨rfl,h3,_⟩
  ·obtain ⟨x1,x2⟩:=h.po _ _ _ q;exact ⟨x1,d9I x2 (c.prm _)⟩
  ·have o:=c.ni.ld.own (by omega);have ho:=o.mod;rw [c.id] at ho;rw [ho,M2];exact ⟨o.b1,o.pr⟩
 refine ⟨fun j hj => ?_,fun j s b e v => ?_,fun j s v hj hs hv => ?_,fun j s b e v => ?_,fun b s e e' p p' => ?_,hpo,fun b s e p => ?_,fun j hj => ?_,fun j s e hj hk => ?_,fun m hm => ?_⟩
 ·by_cases q:j=i
  ·subst q;rw [M2];exact ⟨c.ni,c.id⟩
  ·rw [a6t _ q];exact h.ni j hj
 ·rcases c.v2 _ _ _ _ v with v|⟨rfl,x1,x2,x3,x4⟩
  ·obtain ⟨x1,x2,x3,x4⟩:=h.vp _ _ _ _ v;exact ⟨x1,c.p1 _ _ _ x2,x3,d9I x4 (c.prm _)⟩
  ·rw [M2];exact ⟨hi,x4,x2,x3⟩
 ·by_cases q:j=i
  ·subst q;rw [M2] at hs;exact c.cur s v hs hv
  ·rw [a6t _ q] at hs;exact c.v1 _ _ _ _ (h.cur j s v hj hs hv)
 ·by_cases q:j=i
  ·subst q;rw [M2];exact c.max s b e v
  ·rw [a6t _ q];rcases c.v2 _ _ _ _ v with v|⟨x,_⟩
   ·exact h.max _ _ _ _ v
   ·exact absurd x q
 ·rcases c.p2 _ _ _ p with p|⟨_,_,x,_⟩
  ·rcases c.p2 _ _ _ p' with p'|⟨_,_,x,_⟩
   ·exact h.pu _ _ _ _ p p'
   ·exact x e (c.p1 _ _ _ p)
  ·exact (x e' p').symm
 ·rcases c.p2 _ _ _ p with p|⟨_,_,_,x⟩
  ·exact (h.safe _ _ _ p).imp fun a _=>c.sf
  ·exact x
 ·by_cases q:j=i
  ·subst q;rw [M2];exact c.ld
  ·rw [a6t _ q];exact c.ldo hi (h.ni j hj).1 (by rw [(h.ni j hj).2];exact q) (h.ld j hj)
 ·by_cases q:j=i
  ·subst q;rw [M2] at hk;exact c.kn s e hk
  ·rw [a6t _ q] at hk;exact (h.kn j s e hj hk).mono c.v1
 ·rcases c.ms m hm with q|q
  ·exact ⟨(h.ms m q).1,c.msg (h.ms m q).2⟩
  ·exact q
end
def snd(M:MS)(l:List l8):MS:=fun m=>M m\/m∈l
def G9(N:Int->j6)(M:MS)(i:Int)(n':j6)(l:List l8):Prop := ∃V' P',PX (upd N i n') V' P' (snd M l)
section
variable {N N':Int->j6} {V V':VR} {P P':PR} {M:MS} {i:Int} {n n':j6}
theorem PX.send(h:PX N V P M){l:List l8}(hl:∀m∈l,MI m/\MV N V P m):PX N V P (snd M l):=
 {h with ms:=fun m hm=>hm.elim (h.ms m) (hl m)}
theorem a4Z(M:MS):snd M []=M:=by
 funext m;unfold snd;simp
theorem b97(M:MS)(a b:List l8):snd (snd M a) b=snd M (a++b):=by
 funext m;unfold snd;simp [or_assoc]
theorem G9.same(h:PX N V P M):G9 N M i (N i) []:=⟨V,P,by rw [a5C,a4Z];exact h⟩
theorem LD.same(h:LD N V P n)(hpr:∀q,(N q).Acc.d9<=(N' q).Acc.d9)(hV:∀q s b e,V q s b e->V' q s b e)(hold:∀q s b x e,x<=(N q).Acc.d9->b<x->V' q s b e->V q s b e)(hP:∀b s e,P b s e->P' b s e)(hP':∀s e,P' n.a5 s e->P n.a5 s e)(e1:n'.a9=n.a9)(e2:n'.a5=n.a5)(e3:n'.f0=n.f0)(e4:n'.a6=n.a6)(e5:n'.b7=n.b7)(e6:n'.c9=n.c9)(e7:n'.a8=n.a8):LD N' V' P' n':=by
 have hc:∀q,Z2 N V n q->Z2 N' V' n' q:=fun q c=>by
  refine ⟨by rw [e2];exact d9I c.pr (hpr q),?_⟩;rw [e2,e3,e4];exact fun s b e hs hb v=>c.cv s b e hs hb (hold _ _ _ _ _ c.pr hb v)
 refine ⟨?_,?_,?_,?_⟩
 ·rw [e1,e2,e3];intro h0 s v hs hv;obtain ⟨x1,q,x2⟩:=h.bs h0 s v hs hv;exact ⟨x1,q,hV _ _ _ _ x2⟩
 ·rw [e1,e2,e5];intro h1;obtain ⟨x1,x2⟩:=h.l1 h1;exact ⟨fun s e p=>x1 s e (hP' s e p),fun q hq hf=>hc q (x2 q hq hf)⟩
 ·rw [e1,e2,e4];intro h2;obtain ⟨x1,x2⟩:=h.l2 h2;exact ⟨fun s e p=>x1 s e (hP' s e p),x2.imp fun q _=>hc q⟩
 ·rw [e1,e2,e4,e6,e7];intro h3;obtain ⟨x1,x2,x3,x4⟩:=h.l3 h3;exact ⟨hP _ _ _ x1,fun s e p=>x2 s e (hP' s e p),x3.imp fun q _=>hc q,fun q hq hv=>hV _ _ _ _ (x4 q hq hv)⟩
theorem LD.none(h:n.a9=0):LD N V P n:=⟨fun q=>absurd h q,fun q=>by omega,fun q=>by omega,fun q=>by omega⟩
theorem a5g(hpr:(N i).Acc.d9<=n'.Acc.d9)(q:Int):(N q).Acc.d9<=(upd N i n' q).Acc.d9:=by
 unfold upd;split
 ·rename_i h;rw [h];exact hpr
 ·exact d9p _
theorem PX.quiet(h:PX N V P M)(hi:D3 i)(hni:NI n')(hid:n'.Id=i)(hpr:(N i).Acc.d9<=n'.Acc.d9)(hvt:n'.Acc.a8=(N i).Acc.a8)(hk:n'.a6=(N i).a6)(hld:LD (upd N i n') V P n'):PX (upd N i n') V P M:=
 h.step hi ⟨hni,hid,hpr,by rw [hk];exact d9B _,fun _ _ _ _ v=>v,fun _ _ _ _ v=>.inl v,fun _ _ _ p=>p,fun _ _ _ p=>.inl p,by rw [hvt];exact fun s v=>h.cur i s v hi,by rw [hvt];exact fun s b e=>h.max i s b e,hld,by rw [hk];exact fun s e=>h.kn i s e hi,fun m hm=>.inl hm⟩
theorem PX.keep(h:PX N V P M)(hi:D3 i)(hni:NI n')(hid:n'.Id=i)(hpr:(N i).Acc.d9<=n'.Acc.d9)(hvt:n'.Acc.a8=(N i).Acc.a8)(hk:n'.a6=(N i).a6)(e1:n'.a9=(N i).a9)(e2:n'.a5=(N i).a5)(e3:n'.f0=(N i).f0)(e5:n'.b7=(N i).b7)(e6:n'.c9=(N i).c9)(e7:n'.a8=(N i).a8):PX (upd N i n') V P M:=
 h.quiet hi hni hid hpr hvt hk ((h.ld i hi).same (a5g hpr) (fun _ _ _ _ v=>v) (fun _ _ _ _ _ _ _ v=>v) (fun _ _ _ p=>p) (fun _ _ p=>p) e1 e2 e3 hk e5 e6 e7)
theorem PX.down(h:PX N V P M)(hi:D3 i):PX (upd N i (a15 (N i))) V P M:=
 h.quiet hi (h.ni i hi).1.down (h.ni i hi).2 (d9p _) rfl rfl (.none rfl)
theorem PX.promise(h:PX N V P M)(hi:D3 i){b:Int}{x:v6}(hp:C3 (N i).Acc b=some x):PX (upd N i {N i with Acc:=x}) V P M:=by
 obtain ⟨rfl,h1,h2,h3⟩:=a2W hp;exact h.keep hi ((h.ni i hi).1.promise hp) (h.ni i hi).2 h3 rfl rfl rfl rfl rfl rfl rfl rfl
theorem PX.yield(h:PX N V P M)(hi:D3 i)(b:Int):PX (upd N i (H4 (N i) b)) V P M:=by
 unfold H4;cases (N i).a9 != 0&&decide (b>(N i).a5)
 ·simp only [e0P];rw [a5C];exact h
 ·exact h.down hi
theorem PX.free(h:PX N V P M)(hi:D3 i):PX (upd N i (M9 (N i)).1) V P M:=by
 rcases a8P (N i) with q|⟨k,_,_,q⟩<;>rw [q]
 ·rw [a5C];exact h
 ·exact h.keep hi (h.ni i hi).1.freeN (h.ni i hi).2 (d9p _) rfl rfl rfl rfl rfl rfl rfl rfl
theorem c8f{vs:List n7}{n s:Nat}{v:n7}(h:(N2 vs n)[s]?=some v):vs[s]?=some v\/v=v0:=by
 unfold N2 at h;rw [e0H] at h;split at h
 ·exact .inl h
 ·rw [List.getElem?_replicate] at h;split at h
  ·injection h with h;exact .inr h.symm
  ·cases h
theorem d3x{vs:List n7}{s:Nat}{v:n7}(n:Nat)(h:vs[s]?=some v):(N2 vs n)[s]?=some v:=by
 unfold N2;rw [d9i (d83.1 h).1];exact h
def a42(V:VR)(i:Int)(k:Nat)(b:Int)(e:l7):VR:=fun q s c f=>V q s c f\/(q=i/\s=k/\c=b/\f=e)
theorem c2A(h:PX N V P M)(hi:D3 i){b s:Int}{e:l7}{x:v6}(hc:D7 (N i).Acc b s e=some x):∃k:Nat,s=(k:Int)/\k<40/\1<=b/\b<=3000/\(N i).Acc.d9<=b/\x.d9=b/\s9 e=true/\
  (∀s v,x.a8[s]?=some v->v.a5>0->a42 V i k b e i s v.a5 v.d7)/\(∀s c f,a42 V i k b e i s c f->∃v,x.a8[s]?=some v/\c<=v.a5):=by
 obtain ⟨k,rfl,hk,he,h1,h2,h3,rfl⟩:=b0Y hc;have hlen:k<(N2 (N i).Acc.a8 (k+1)).length:=by rw [b4D];omega
 refine ⟨k,rfl,hk,h1,h2,h3,rfl,he,fun s v hs hv => ?_,fun s c f v => ?_⟩
 ·simp only [e0o] at hs;split at hs
  ·rename_i hq;injection hs with hs;subst hs;exact .inr ⟨rfl,hq.symm,rfl,rfl⟩
  ·rcases c8f hs with q|q
   ·exact .inl (h.cur i s v hi q hv)
   ·rw [q] at hv;exact absurd hv (by decide)
 ·simp only [e0o];by_cases hq:k=s
  ·subst hq;rw [if_pos rfl,if_pos hlen];refine ⟨_,rfl,?_⟩;rcases v with v|⟨_,_,rfl,_⟩
   ·have:=(h.vp _ _ _ _ v).2.2.2;simp only;omega
   ·exact d9p _
  ·rw [if_neg hq];rcases v with v|⟨_,x,_⟩
   ·obtain ⟨v',y1,y2⟩:=h.max _ _ _ _ v;exact ⟨v',d3x _ y1,y2⟩
   ·exact absurd x.symm hq
theorem b55{k:Nat}{b:Int}{e:l7}(hb:(N i).Acc.d9<=b){q:Int}{s:Nat}{c x:Int}{f:l7}(hx:x<=(N q).Acc.d9)(hc:c<x)(v:a42 V i k b e q s c f):V q s c f:=by
 rcases v with v|⟨rfl,_,rfl,_⟩
 ·exact v
 ·omega
theorem PX.vote(h:PX N V P M)(hi:D3 i){b s:Int}{e:l7}{x:v6}(hc:D7 (N i).Acc b s e=some x)(hp:P b s.toNat e):PX (upd N i {N i with Acc:=x}) (a42 V i s.toNat b e) P M:=by
 obtain ⟨k,rfl,hk,h1,h2,h3,h4,he,c1,c2⟩:=c2A h hi hc;rw [d9q] at hp ⊢;have hpr:(N i).Acc.d9<=({N i with Acc:=x}:j6).Acc.d9:=by show _<=x.d9;rw [h4];exact h3
 refine h.step hi ⟨(h.ni i hi).1.cast hc,(h.ni i hi).2,hpr,d9B _,fun _ _ _ _ v=>.inl v,fun q s c f v => ?_,fun _ _ _ p=>p,fun _ _ _ p=>.inl p,c1,c2,?_,fun s e hk=>(h.kn i s e hi hk).mono fun _ _ _ _ v=>.inl v,fun m hm=>.inl hm⟩
 ·rcases v with v|⟨rfl,rfl,rfl,rfl⟩
  ·exact .inl v
  ·exact .inr ⟨rfl,h3,h1,by show _<=x.d9;rw [h4];exact d9p _,hp⟩
 ·exact (h.ld i hi).same (a5g hpr) (fun _ _ _ _ v=>.inl v) (fun q s c x f hx hc v=>b55 h3 hx hc v) (fun _ _ _ p=>p) (fun _ _ p=>p) rfl rfl rfl rfl rfl rfl rfl
theorem PX.know(h:PX N V P M)(hi:D3 i){e:l7}(he:s9 e=true)(hl:(N i).a6.length<40)(hc:a2f V (N i).a6.length e):PX (upd N i (A9 (N i) e)) V P M:=by
 have hk:=b7U (N i) e;have hacc:(A9 (N i) e).Acc=(N i).Acc:=by unfold A9;cases (N i).a9==3<;>rfl
 have hb:(A9 (N i) e).a5=(N i).a5:=by unfold A9;cases (N i).a9==3<;>rfl
 have hbe:(A9 (N i) e).f0=(N i).f0:=by unfold A9;cases (N i).a9==3<;>rfl
 have hpr:(N i).Acc.d9<=(A9 (N i) e).Acc.d9:=by rw [hacc];exact d9p _
 have hcov:∀q,Z2 N V (N i) q->Z2 (upd N i (A9 (N i) e)) V (A9 (N i) e) q:=fun q c=>by
  refine ⟨by rw [hb];exact d9I c.pr (a5g hpr q),?_⟩;rw [hb,hbe,hk,d9d];exact fun s b e hs hb v=>c.cv s b e (by omega) hb v
 refine h.step hi ⟨(h.ni i hi).1.know he hl,(b7n _ _).trans (h.ni i hi).2,hpr,by rw [hk];simp,fun _ _ _ _ v=>v,fun _ _ _ _ v=>.inl v,fun _ _ _ p=>p,fun _ _ _ p=>.inl p,by rw [hacc];exact fun s v=>h.cur i s v hi,by rw [hacc];exact fun s b e=>h.max i s b e,?_,fun s f hs => ?_,fun m hm=>.inl hm⟩
 ·have hld:=h.ld i hi;refine ⟨?_,?_,?_,?_⟩
  ·intro h0;rw [hb,hbe];refine hld.bs ?_;intro q;apply h0;unfold A9;rw [show ((N i).a9==3)=false by simp [q]];exact q
  ·intro h1;have h1':(N i).a9=1:=by
    by_cases q:(N i).a9=3
    ·unfold A9 at h1;rw [show ((N i).a9==3)=true by simpa using q] at h1;cases h1
    ·unfold A9 at h1;rw [show ((N i).a9==3)=false by simpa using q] at h1;exact h1
   have hf:(A9 (N i) e).b7=(N i).b7:=by unfold A9;cases (N i).a9==3<;>rfl
   rw [hb,hf];exact ⟨(hld.l1 h1').1,fun q hq hf=>hcov q ((hld.l1 h1').2 q hq hf)⟩
  ·intro h2;rw [hb,hk,d9d,d90];by_cases q:(N i).a9=3
   ·obtain ⟨x1,x2,x3,x4⟩:=hld.l3 q;exact ⟨fun s f p=>by have:=x2 s f p;omega,x3.imp fun q _=>hcov q⟩
   ·have h2':(N i).a9=2:=by
     unfold A9 at h2;rw [show ((N i).a9==3)=false by simpa using q] at h2;exact h2
    obtain ⟨x1,x2⟩:=hld.l2 h2';exact ⟨fun s f p=>by have:=x1 s f p;omega,x2.imp fun q _=>hcov q⟩
  ·intro h3;exfalso
   by_cases q:(N i).a9=3
   ·unfold A9 at h3;rw [show ((N i).a9==3)=true by simpa using q] at h3;cases h3
   ·unfold A9 at h3;rw [show ((N i).a9==3)=false by simpa using q] at h3;exact q h3
 ·rw [hk,e0H] at hs;split at hs
  ·exact h.kn i s f hi hs
  ·rename_i hge;rw [List.getElem?_singleton] at hs;split at hs
   ·injection hs with hs;subst hs;rw [show s=(N i).a6.length by omega];exact hc
   ·cases hs
end
section
variable {N:Int->j6} {V:VR} {P:PR} {M:MS} {i:Int}
theorem MV.other{m:l8}(h:m.a0=6\/m.a0=7\/m.a0=8):MV N V P m:=⟨fun k=>by omega,fun k=>by omega,fun k=>by omega,fun k=>by omega,fun k=>by omega⟩
theorem MV.c1{m:l8}(h:m.a0=1)(x:d9x m.a5 3=m.b7/\m.c8<=(N m.b7).a6.length):MV N V P m:=⟨fun _=>x,fun k=>by omega,fun k=>by omega,fun k=>by omega,fun k=>by omega⟩
theorem MV.c2{m:l8}(h:m.a0=2)(x:m.c8<=(N m.To).a6.length/\m.a5<=(N m.b7).Acc.d9/\(∀s b e,m.c8.toNat<=s->b<m.a5->V m.b7 s b e->∃v,m.a8[s-m.c8.toNat]?=some v/\b<=v.a5)/\∀k v,m.a8[k]?=some v->v.a5>0->v.a5<=m.a5/\V m.b7 (m.c8.toNat+k) v.a5 v.d7):MV N V P m:=⟨fun k=>by omega,fun _=>x,fun k=>by omega,fun k=>by omega,fun k=>by omega⟩
theorem MV.c3{m:l8}(h:m.a0=3)(x:P m.a5 m.c8.toNat m.d7):MV N V P m:=⟨fun k=>by omega,fun k=>by omega,fun _=>x,fun k=>by omega,fun k=>by omega⟩
theorem MV.c4{m:l8}(h:m.a0=4)(x:∃e,V m.b7 m.c8.toNat m.a5 e):MV N V P m:=⟨fun k=>by omega,fun k=>by omega,fun k=>by omega,fun _=>x,fun k=>by omega⟩
theorem MV.c5{m:l8}(h:m.a0=5)(x:a2f V m.c8.toNat m.d7):MV N V P m:=⟨fun k=>by omega,fun k=>by omega,fun k=>by omega,fun k=>by omega,fun _=>x⟩
def d4a(P:PR)(b:Int)(k:Nat)(e:l7):PR:=fun c s f=>P c s f\/(c=b/\s=k/\f=e)
theorem c57{id q:Int}(hid:D3 id)(hq:D3 q)(h:(W7 id)[q.toNat]?=some true):q=id:=by
 unfold D3 at hid hq;obtain rfl|rfl|rfl:id=0\/id=1\/id=2:=by omega
 all_goals obtain rfl|rfl|rfl:q=0\/q=1\/q=2:=by omega
 all_goals first|rfl|(exact absurd h (by decide))
theorem PX.put(h:PX N V P M)(hi:D3 i)(hph:(N i).a9=2){q:List l7}{e:l7}(hn:a0C (N i) e){a:v6}(hc:D7 (N i).Acc (N i).a5 ((N i).a6.length:Int) e=some a)(hni:NI {N i with d8:=q,Acc:=a,a9:=3,c9:=e,a8:=W7 (N i).Id}):PX (upd N i {N i with d8:=q,Acc:=a,a9:=3,c9:=e,a8:=W7 (N i).Id}) (a42 V i (N i).a6.length (N i).a5 e) (d4a P (N i).a5 (N i).a6.length e) M:=by
 obtain ⟨k,hk0,hk,h1,h2,h3,h4,he,c1,c2⟩:=c2A h hi hc;obtain rfl:k=(N i).a6.length:=by omega
 obtain ⟨l1,l2⟩:=(h.ld i hi).l2 hph;have hown:=(h.ni i hi).1.ld.own (by omega);have hid:=(h.ni i hi).2;have hbs:=(h.ld i hi).bs (by omega);generalize hn':({N i with d8:=q,Acc:=a,a9:=3,c9:=e,a8:=W7 (N i).Id}:j6)=n' at hni ⊢;have f1:n'.Acc=a:=by rw [<-hn']
 have f2:n'.a6=(N i).a6:=by rw [<-hn']
 have f3:n'.a5=(N i).a5:=by rw [<-hn']
 have f4:n'.f0=(N i).f0:=by rw [<-hn']
 have f5:n'.a9=3:=by rw [<-hn']
 have f6:n'.c9=e:=by rw [<-hn']
 have f7:n'.a8=W7 i:=by rw [<-hn'];exact congrArg W7 hid
 have f8:n'.Id=i:=by rw [<-hn'];exact hid
 have hpr:(N i).Acc.d9<=n'.Acc.d9:=by rw [f1,h4];exact h3
 have hcov:∀a,Z2 N V (N i) a->Z2 (upd N i n') (a42 V i (N i).a6.length (N i).a5 e) n' a:=fun a c=>by
  refine ⟨by rw [f3];exact d9I c.pr (a5g hpr a),?_⟩;rw [f2,f3,f4];exact fun s b f hs hb v=>c.cv s b f hs hb (b55 h3 c.pr hb v)
 have hsf:∀a,Z2 N V (N i) a->Sf (upd N i n') (a42 V i (N i).a6.length (N i).a5 e) (N i).a5 (N i).a6.length e a:=fun a c=>by
  refine ⟨d9I c.pr (a5g hpr a),fun b' e' hb v => ?_⟩;have v:=b55 h3 c.pr hb v;obtain ⟨w,w1,w2⟩:=c.cv _ _ _ (d9B _) hb v;have hb1:=(h.vp _ _ _ _ v).2.2.1;have hw:w.a5>0:=by omega
  have hno:∀{p:Prop},(∀v∈(N i).f0.drop (N i).a6.length,¬v.a5>0)->p:=fun hn=>by
   refine absurd hw (hn w ?_);exact d9a (i:=0) (by rw [e0j];exact w1)
  cases hn with
  | best u hu hub=>
   rw [w1] at hu;injection hu with hu;subst hu;obtain ⟨y1,q1,y2⟩:=hbs _ _ w1 hw;exact ⟨w.a5,q1,w2,y1,.inl y2⟩
  | gap u hu hub hn=>exact absurd hw (hn w w1)
  | want hb hk hn=>exact hno hn
  | queue e he hk hn=>exact hno hn
 refine h.step hi ⟨hni,f8,hpr,by rw [f2];exact d9B _,fun _ _ _ _ v=>.inl v,fun q s c f v => ?_,fun _ _ _ p=>.inl p,fun b s f p => ?_,by rw [f1];exact c1,by rw [f1];exact c2,?_,by rw [f2];exact fun s e hk=>(h.kn i s e hi hk).mono fun _ _ _ _ v=>.inl v,fun m hm=>.inl hm⟩
 ·rcases v with v|⟨rfl,rfl,rfl,rfl⟩
  ·exact .inl v
  ·exact .inr ⟨rfl,h3,h1,by rw [f1,h4];exact d9p _,.inr ⟨rfl,rfl,rfl⟩⟩
 ·rcases p with p|⟨rfl,rfl,rfl⟩
  ·exact .inl p
  ·refine .inr ⟨f3.symm,f5,fun e' p' => ?_,l2.imp fun a _=>hsf a⟩;rcases p' with p'|⟨_,_,x⟩
   ·exact absurd (l1 _ _ p') (by omega)
   ·exact x
 ·refine ⟨fun _ => ?_,fun q=>by omega,fun q=>by omega,fun _ => ?_⟩
  ·rw [f3,f4];intro s v hs hv;obtain ⟨x1,q1,x2⟩:=hbs s v hs hv;exact ⟨x1,q1,.inl x2⟩
  ·rw [f2,f3,f6,f7];refine ⟨.inr ⟨rfl,rfl,rfl⟩,fun s f p => ?_,l2.imp fun a _=>hcov a,fun q hq hm => ?_⟩
   ·rcases p with p|⟨_,rfl,_⟩
    ·exact Nat.le_of_lt (l1 _ _ p)
    ·exact d9B _
   ·rw [c57 hi hq hm];exact .inr ⟨rfl,rfl,rfl,rfl⟩
theorem PX.queue(h:PX N V P M)(hi:D3 i){q:List l7}(hl:q.length<=4)(hm:∀e∈q,s9 e=true/\e.i7=false):PX (upd N i {N i with d8:=q}) V P M:=
 h.keep hi ((h.ni i hi).1.queue hl hm) (h.ni i hi).2 (d9p _) rfl rfl rfl rfl rfl rfl rfl rfl
theorem PX.propose(h:PX N V P M)(hi:D3 i):G9 N M i (E2 (N i)).1 (E2 (N i)).2:=by
 have hr:=a7a (h.ni i hi).1;unfold E2 at hr ⊢;cases hc:(N i).a9 != 2||decide (40<=(N i).a6.length)
 case true=>exact .same h
 rw [hc] at hr;simp only [e0P] at hr ⊢;simp only [d9O,bne_eq_false_iff_eq,decide_eq_false_iff_not] at hc;obtain ⟨q,hq,hql,hqm,hqe⟩:=a6r (N i);cases hx:R5 (N i) with
 | mk x o=>
 rw [hx] at hr hq hqe;have hq:x={N i with d8:=q}:=hq;subst hq;have hQ:PX (upd N i {N i with d8:=q}) V P M:=h.queue hi (by have:=(h.ni i hi).1.ql;omega) fun e he=>(h.ni i hi).1.qs e (hqm e he)
 cases o with
 | none=>exact ⟨V,P,by rw [a4Z];exact hQ⟩
 | some e=>
  simp only [a1o] at hr ⊢;cases hcs:D7 (N i).Acc (N i).a5 ((N i).a6.length:Int) e with
  | none=>
   have:=hQ.down hi;rw [M2,a0W] at this;exact ⟨V,P,by rw [a4Z];exact this⟩
  | some a=>
   rw [hcs] at hr;have hid:=(h.ni i hi).2;refine ⟨_,_,PX.send (h.put hi hc.1 (hqe e rfl) hcs hr.ni) fun m hm=>⟨hr.ms m hm,?_⟩⟩;obtain ⟨t,_,_,_,rfl⟩:=a1M (h.ni i hi).1.id hm;exact .c3 rfl (.inr ⟨rfl,rfl,rfl⟩)
theorem G9.then{n1 n2:j6}{l1 l2:List l8}(h1:G9 N M i n1 l1)(h2:∀V P,PX (upd N i n1) V P (snd M l1)->G9 (upd N i n1) (snd M l1) i n2 l2):G9 N M i n2 (l1++l2):=by
 obtain ⟨V1,P1,h1⟩:=h1;obtain ⟨V2,P2,h2⟩:=h2 V1 P1 h1;rw [a0W,b97] at h2;exact ⟨V2,P2,h2⟩
theorem PX.learn(h:PX N V P M)(hi:D3 i){e:l7}(he:s9 e=true)(hl:(N i).a6.length<40)(hc:a2f V (N i).a6.length e):G9 N M i (Q1 (N i) e).1 (Q1 (N i) e).2.1:=by
 have h1:=h.know hi he hl hc;have h2:=h1.free hi;rw [M2,a0W] at h2;have h3:=h2.propose hi;rw [M2] at h3;obtain ⟨V',P',h3⟩:=h3;rw [a0W] at h3;exact ⟨V',P',h3⟩
theorem PX.rise(h:PX N V P M)(hi:D3 i):G9 N M i (M5 (N i)).1 (M5 (N i)).2:=by
 have hni:=(h.ni i hi).1;have hid:=(h.ni i hi).2;have hr:=a8i hni;unfold M5 at hr ⊢;cases hd:decide (H3 (N i).Acc.d9 (N i).Id<0);case true=>exact .same h
 rw [hd] at hr;simp only [e0P] at hr ⊢;simp only [decide_eq_false_iff_not] at hd;rcases b4g hni.pr hni.id with q|⟨q1,q2,q3,q4⟩
 ·omega
 generalize H3 (N i).Acc.d9 (N i).Id=b at *;have hld:∀(n':j6),n'.a9=1->n'.a5=b->n'.a6=(N i).a6->n'.f0=(N i).Acc.a8->n'.b7=W7 i->n'.Acc.d9=b->LD (upd N i n') V P n':=by
  intro n' e1 e2 e3 e4 e5 e6;refine ⟨fun _ => ?_,fun _=>⟨?_,?_⟩,fun q=>by omega,fun q=>by omega⟩
  ·rw [e2,e4];intro s v hs hv;have hv':=h.cur i s v hi hs hv;exact ⟨by have:=(h.vp _ _ _ _ hv').2.2.2;omega,i,hv'⟩
  ·rw [e2];intro s e p;have:=(h.po _ _ _ p).2;rw [q4,hid] at this;omega
  ·rw [e5];intro q hq hm;rw [c57 hi hq hm];refine ⟨by rw [e2,M2,e6];exact d9p _,?_⟩;rw [e4];exact fun s b e _ _ v=>h.max i s b e v
 refine ⟨V,P,PX.send (h.quiet hi hr.ni (hr.id.trans hid) (Int.le_of_lt q1) rfl rfl (hld _ rfl rfl rfl rfl (by rw [hid]) rfl)) fun m hm=>⟨hr.ms m hm,?_⟩⟩;obtain ⟨t,_,_,_,rfl⟩:=a1M hni.id hm;refine .c1 rfl ⟨q4,?_⟩;simp only [hid,M2];exact d9p _
theorem b8A{l:List Bool}(hl:l.length=3)(h:F7 l=true):Quo fun q=>l[q.toNat]?=some true:=by
 match l,hl with
 | [a,b,c],_=>
  cases a<;>cases b<;>cases c<;>first|(exact absurd h (by decide))|exact ⟨0,1,by unfold D3;omega,by unfold D3;omega,by decide,rfl,rfl⟩|exact ⟨0,2,by unfold D3;omega,by unfold D3;omega,by decide,rfl,rfl⟩|exact ⟨1,2,by unfold D3;omega,by unfold D3;omega,by decide,rfl,rfl⟩
theorem c1d{l:List Bool}{f q:Int}(hf:D3 f)(hq:D3 q)(h:(l.set f.toNat true)[q.toNat]?=some true):q=f\/l[q.toNat]?=some true:=by
 unfold D3 at hf hq;rw [e0o] at h;split at h
 ·left;omega
 ·exact .inr h
end
section
variable {N:Int->j6} {V:VR} {P:PR} {M:MS} {i:Int} {m:l8}
theorem G9.reply(h:PX N V P M){r:l8}(h1:MI r)(h2:r.a0=6\/r.a0=7\/r.a0=8):G9 N M i (N i) [r]:=
 ⟨V,P,by rw [a5C];exact h.send fun x hx=>by rw [d84.1 hx];exact ⟨h1,.other h2⟩⟩
theorem PX.tPrepare(h:PX N V P M)(hi:D3 i)(hm:M m)(hto:m.To=i)(hk:m.a0=1):G9 N M i (U9 (N i) m).1 (U9 (N i) m).2:=by
 obtain ⟨mi,mv⟩:=h.ms m hm;obtain ⟨hni,hid⟩:=h.ni i hi;have hr:=c5B hni mi hk;unfold U9 at hr ⊢;cases hp:C3 (N i).Acc m.a5 with
 | none=>
  rw [hp] at hr;exact .reply h (hr.ms _ (d84.2 rfl)) (.inl rfl)
 | some x=>
  rw [hp] at hr;have h1:=(h.promise hi hp).yield hi m.a5;rw [M2,a0W] at h1;obtain ⟨rfl,b1,b2,b3⟩:=a2W hp;refine ⟨V,P,h1.send fun r hr'=>⟨hr.ms r hr',?_⟩⟩;rw [d84.1 hr'];obtain ⟨s1,s2⟩:=mv.k1 hk;have hacc:(H4 {N i with Acc:=⟨m.a5,(N i).Acc.a8⟩} m.a5).Acc=⟨m.a5,(N i).Acc.a8⟩:=d2A _ _;have hne:m.b7≠i:=fun q=>mi.ne (by rw [q,hto])
  have hsl:=mi.sl;refine .c2 rfl ⟨?_,?_,?_,?_⟩
  ·show m.c8<=((upd N i _ m.b7).a6.length:Int)
   rw [a6t _ hne];exact s2
  ·show m.a5<=(upd N i _ m.To).Acc.d9
   rw [hto,M2,hacc];exact d9p _
  ·show ∀s b e,m.c8.toNat<=s->b<m.a5->V m.To s b e->∃v,((N i).Acc.a8.drop m.c8.toNat)[s-m.c8.toNat]?=some v/\b<=v.a5
   rw [hto];intro s b e hs _ v;obtain ⟨w,w1,w2⟩:=h.max _ _ _ _ v;exact ⟨w,by rw [e0j,show m.c8.toNat+(s-m.c8.toNat)=s by omega];exact w1,w2⟩
  ·show ∀k v,((N i).Acc.a8.drop m.c8.toNat)[k]?=some v->v.a5>0->v.a5<=m.a5/\V m.To (m.c8.toNat+k) v.a5 v.d7
   rw [hto];intro k v hk hv;rw [e0j] at hk;have hv':=h.cur i _ v hi hk hv;exact ⟨d9I (h.vp _ _ _ _ hv').2.2.2 b3,hv'⟩
theorem PX.tAccept(h:PX N V P M)(hi:D3 i)(hm:M m)(hto:m.To=i)(hk:m.a0=3):G9 N M i (U2 (N i) m).1 (U2 (N i) m).2:=by
 obtain ⟨mi,mv⟩:=h.ms m hm;obtain ⟨hni,hid⟩:=h.ni i hi;have hr:=c04 hni mi hk;unfold U2 at hr ⊢;cases hp:D7 (N i).Acc m.a5 m.c8 m.d7 with
 | none=>
  rw [hp] at hr;exact .reply h (hr.ms _ (d84.2 rfl)) (.inl rfl)
 | some x=>
  rw [hp] at hr;have h1:=(h.vote hi hp (mv.k3 hk)).yield hi m.a5;rw [M2,a0W] at h1;refine ⟨_,P,h1.send fun r hr'=>⟨hr.ms r hr',?_⟩⟩;rw [d84.1 hr'];refine .c4 rfl ⟨m.d7,.inr ⟨hto,rfl,rfl,rfl⟩⟩
theorem c3g{a b:List n7}{s:Nat}{v:n7}(h:a[s]?=some v\/b[s]?=some v):∃w,(B2 a b)[s]?=some w/\v.a5<=w.a5:=by
 rw [a7q];cases ha:a[s]? with
 | none=>
  rw [ha] at h;rcases h with h|h
  ·cases h
  ·rw [h];exact ⟨v,rfl,d9p _⟩
 | some x=>
  cases hb:b[s]? with
  | none=>
   rw [ha,hb] at h;rcases h with h|h
   ·injection h with h;subst h;exact ⟨x,rfl,d9p _⟩
   ·cases h
  | some y=>
   rw [ha,hb] at h;simp only;cases hd:decide (y.a5>x.a5)
   ·refine ⟨x,rfl,?_⟩;simp only [decide_eq_false_iff_not] at hd;rcases h with h|h
    ·injection h with h;subst h;exact d9p _
    ·injection h with h;subst h;omega
   ·refine ⟨y,rfl,?_⟩;simp only [decide_eq_true_eq] at hd;rcases h with h|h
    ·injection h with h;subst h;omega
    ·injection h with h;subst h;exact d9p _
theorem d7X{a b:List n7}{s:Nat}{w:n7}(h:(B2 a b)[s]?=some w):a[s]?=some w\/b[s]?=some w:=by
 rw [a7q] at h;cases ha:a[s]? with
 | none=>
  rw [ha] at h;cases hb:b[s]? with
  | none=>rw [hb] at h;cases h
  | some y=>rw [hb] at h;exact .inr h
 | some x=>
  rw [ha] at h;cases hb:b[s]? with
  | none=>rw [hb] at h;exact .inl h
  | some y=>
   rw [hb] at h;simp only at h;cases hd:decide (y.a5>x.a5)
   ·rw [hd] at h;exact .inl h
   ·rw [hd] at h;exact .inr h
theorem d4y{vs:List n7}{k s:Nat}{v:n7}(h:(d81 k v0++vs)[s]?=some v)(hv:v.a5>0):k<=s/\vs[s-k]?=some v:=by
 rw [e0H] at h;split at h
 ·rw [List.getElem?_replicate] at h;split at h
  ·injection h with h;subst h;exact absurd hv (by decide)
  ·cases h
 ·rename_i hge;rw [e0G] at h hge;exact ⟨by omega,h⟩
theorem PX.tPromise(h:PX N V P M)(hi:D3 i)(hm:M m)(hto:m.To=i)(hk:m.a0=2):G9 N M i (U3 (N i) m).1 (U3 (N i) m).2:=by
 obtain ⟨mi,mv⟩:=h.ms m hm;obtain ⟨hni,hid⟩:=h.ni i hi;have hr:=b7t hni mi hk;have hsl:=mi.sl;have hfr:D3 m.b7:=mi.fr;obtain ⟨s1,s2,s3,s4⟩:=mv.k2 hk;rw [hto] at s1;unfold U3 at hr ⊢;cases hc:(N i).a9 != 1||m.a5 != (N i).a5
 case true=>exact .same h
 rw [hc] at hr;simp only [e0P] at hr ⊢;simp only [d9O,bne_eq_false_iff_eq] at hc;obtain ⟨hp1,hbal⟩:=hc;have hld:=h.ld i hi;obtain ⟨l1,l2⟩:=hld.l1 hp1;have hfl:(N i).b7.length=3:=by
  rcases hni.ld with q|q|q|q
  ·omega
  ·exact q.2.2.1
  all_goals exact absurd q.1 (by omega)
 have hkl:m.c8.toNat<=(N i).a6.length:=by omega
 have hbs:∀s v,(B2 (N i).f0 (d81 m.c8.toNat v0++m.a8))[s]?=some v->v.a5>0->v.a5<(N i).a5/\∃q,V q s v.a5 v.d7:=by
  intro s v hs hv;rcases d7X hs with q|q
  ·exact hld.bs (by omega) s v q hv
  ·obtain ⟨g1,g2⟩:=d4y q hv;obtain ⟨g3,g4⟩:=s4 _ v g2 hv;rw [show m.c8.toNat+(s-m.c8.toNat)=s by omega] at g4;refine ⟨?_,_,g4⟩;have hpp:=(h.vp _ _ _ _ g4).2.1;rcases Int.lt_or_le v.a5 (N i).a5 with q|q
   ·exact q
   ·exact absurd (show P (N i).a5 s v.d7 by rw [show (N i).a5=v.a5 by omega];exact hpp) (l1 _ _)
 have hcov:∀(n':j6),n'.Acc=(N i).Acc->n'.a5=(N i).a5->n'.a6=(N i).a6->n'.f0=B2 (N i).f0 (d81 m.c8.toNat v0++m.a8)->∀q,D3 q->((N i).b7.set m.b7.toNat true)[q.toNat]?=some true->Z2 (upd N i n') V n' q:=by
  intro n' e0 e1 e2 e3 q hq hf;have hpr:∀q,(N q).Acc.d9<=(upd N i n' q).Acc.d9:=a5g (by rw [e0];exact d9p _)
  rcases c1d hfr hq hf with rfl|hf
  ·refine ⟨by rw [e1,<-hbal];exact d9I s2 (hpr _),?_⟩;rw [e1,e2,e3];intro s b e hs hb v;obtain ⟨w,w1,w2⟩:=s3 s b e (by omega) (by rw [hbal];exact hb) v;have hw:(d81 m.c8.toNat v0++m.a8)[s]?=some w:=by
    rw [d9f (by rw [e0G];omega),e0G];exact w1
   obtain ⟨u,u1,u2⟩:=c3g (a:=(N i).f0) (.inr hw);exact ⟨u,u1,by omega⟩
  ·have c:=l2 q hq hf;refine ⟨by rw [e1];exact d9I c.pr (hpr _),?_⟩;rw [e1,e2,e3];intro s b e hs hb v;obtain ⟨w,w1,w2⟩:=c.cv s b e hs hb v;obtain ⟨u,u1,u2⟩:=c3g (b:=d81 m.c8.toNat v0++m.a8) (.inl w1);exact ⟨u,u1,by omega⟩
 cases htw:F7 ((N i).b7.set m.b7.toNat true)
 ·rw [htw] at hr;simp only [e0P] at hr ⊢;refine ⟨V,P,by rw [a4Z];exact h.quiet hi hr.ni hid (d9p _) rfl rfl ⟨fun _=>hbs,fun _=>⟨l1,fun q hq hf=>hcov _ (by rfl) (by rfl) (by rfl) (by rfl) q hq hf⟩,fun q=>absurd (hp1.symm.trans q) (by decide),fun q=>absurd (hp1.symm.trans q) (by decide)⟩⟩
 ·simp only [e0O];have hq:=b8A (by rw [d9A];exact hfl) htw;have hown:=hni.ld.own (by omega);have hmv:m.a8.length<=40/\(∀v∈m.a8,VI v)/\m.c8+m.a8.length<=40:=by
   rcases mi.kd with q|q|q|q|q|q|q
   ·omega
   ·exact ⟨q.2.2.2.1.1,q.2.2.2.1.2,q.2.2.2.2⟩
   all_goals exact absurd q.1 (by omega)
  have hquiet:(N i).c9=zE/\(N i).a8=[]:=by
   rcases hni.ld with q|q|q|q
   ·omega
   ·exact ⟨q.2.2.2.2.1,q.2.2.2.2.2⟩
   all_goals exact absurd q.1 (by omega)
  have hni2:NI {N i with b7:=[],f0:=B2 (N i).f0 (d81 m.c8.toNat v0++m.a8),a9:=2}:=by
   refine ⟨hni.id,hni.pr,hni.vl,hni.vs,hni.kl,hni.ks,hni.sq,hni.ql,hni.qs,.inr (.inr (.inl ⟨rfl,⟨hown.b1,hown.b2,hown.mod,hown.pr,?_,?_⟩,rfl,hquiet.1,hquiet.2⟩)),hni.wt⟩
   ·have hbl:=hown.bl;show (B2 _ _).length<=40
    rw [a85,d9d,e0G];omega
   ·intro v hv;rcases a6v hv with q|q
    ·exact hown.bs v q
    ·rcases d80.1 q with q|q
     ·rw [(d9P.1 q).2];exact .inl rfl
     ·exact hmv.2.1 v q
  have h2:PX (upd N i {N i with b7:=[],f0:=B2 (N i).f0 (d81 m.c8.toNat v0++m.a8),a9:=2}) V P M:=
   h.quiet hi hni2 hid (d9p _) rfl rfl ⟨fun _=>hbs,fun q=>absurd (show (2:Int)=1 from q) (by decide),fun _=>⟨fun s e p=>absurd p (l1 s e),hq.imp fun q hq hf=>hcov _ (by rfl) (by rfl) (by rfl) (by rfl) q hq hf⟩,fun q=>absurd (show (2:Int)=3 from q) (by decide)⟩
  have h3:=h2.propose hi;rw [M2] at h3;obtain ⟨V',P',h3⟩:=h3;rw [a0W] at h3;exact ⟨V',P',h3⟩
theorem PX.tAccepted(h:PX N V P M)(hi:D3 i)(hm:M m)(hto:m.To=i)(hk:m.a0=4):G9 N M i (a0l (N i) m).1 (a0l (N i) m).2.1:=by
 obtain ⟨mi,mv⟩:=h.ms m hm;obtain ⟨hni,hid⟩:=h.ni i hi;have hr:=c0Z hni mi;have hfr:D3 m.b7:=mi.fr;obtain ⟨e',ve⟩:=mv.k4 hk;unfold a0l at hr ⊢;cases hc:(N i).a9 != 3||(m.a5 != (N i).a5||m.c8 != ((N i).a6.length:Int))
 case true=>exact .same h
 rw [hc] at hr;simp only [e0P] at hr ⊢;simp only [d9O,bne_eq_false_iff_eq] at hc;obtain ⟨hp3,hbal,hsl⟩:=hc;rw [hsl,hbal,d9q] at ve;have hld:=h.ld i hi;obtain ⟨l1,l2,l3,l4⟩:=hld.l3 hp3;have he':e'=(N i).c9:=h.pu _ _ _ _ (h.vp _ _ _ _ ve).2.1 l1;subst he';have hlead:Own (N i)/\(N i).b7=[]/\s9 (N i).c9=true/\(N i).a8.length=3/\(N i).a8[(N i).Id.toNat]?=some true/\(N i).a6.length<40:=by
  rcases hni.ld with q|q|q|q
  ·omega
  ·omega
  ·omega
  ·exact q.2
 obtain ⟨o1,o2,o3,o4,o5,o6⟩:=hlead;have hmk:∀q,D3 q->((N i).a8.set m.b7.toNat true)[q.toNat]?=some true->V q (N i).a6.length (N i).a5 (N i).c9:=by
  intro q hq hf;rcases c1d hfr hq hf with rfl|hf
  ·exact ve
  ·exact l4 q hq hf
 have hni2:NI {N i with a8:=(N i).a8.set m.b7.toNat true}:=
  ⟨hni.id,hni.pr,hni.vl,hni.vs,hni.kl,hni.ks,hni.sq,hni.ql,hni.qs,.inr (.inr (.inr ⟨hp3,o1,o2,o3,by simpa using o4,by
   show ((N i).a8.set m.b7.toNat true)[(N i).Id.toNat]?=some true
   rw [e0o];split
   ·rename_i hq;have:=hni.id;rw [if_pos (by omega)]
   ·exact o5,o6⟩)),hni.wt⟩
 have h2:PX (upd N i {N i with a8:=(N i).a8.set m.b7.toNat true}) V P M:=by
  refine h.quiet hi hni2 hid (d9p _) rfl rfl ⟨fun h0=>hld.bs h0,fun q=>absurd (hp3.symm.trans q) (by decide),fun q=>absurd (hp3.symm.trans q) (by decide),fun _=>⟨l1,l2,l3.imp fun a _ c=>⟨d9I c.pr (a5g (n':={N i with a8:=(N i).a8.set m.b7.toNat true}) (d9p _) a),c.cv⟩,hmk⟩⟩
 cases htw:F7 ((N i).a8.set m.b7.toNat true)
 ·simp only [e0P];exact ⟨V,P,by rw [a4Z];exact h2⟩
 ·rw [htw] at hr;simp only [e0O] at hr ⊢;have hq:=b8A (by rw [d9A];exact o4) htw;have hch:a2f V (N i).a6.length (N i).c9:=by
   obtain ⟨a,b,ha,hb,hab,x,y⟩:=hq;exact ⟨(N i).a5,a,b,ha,hb,hab,hmk a ha x,hmk b hb y⟩
  refine G9.then (n1:={N i with a8:=(N i).a8.set m.b7.toNat true}) ⟨V,P,h2.send fun x hx=>⟨hr.ms x (d96 _ hx),?_⟩⟩ fun V2 P2 hp => ?_
  ·obtain ⟨t,_,_,_,rfl⟩:=a1M hni.id hx;exact .c5 rfl hch
  ·have h3:PX (upd N i {N i with a8:=(N i).a8.set m.b7.toNat true}) V P (snd M (C2 (N i).Id ⟨5,0,0,0,((N i).a6.length:Int),(N i).c9,[]⟩)):=h2.send fun x hx=>⟨hr.ms x (d96 _ hx),by
    obtain ⟨t,_,_,_,rfl⟩:=a1M hni.id hx;exact .c5 rfl hch⟩
   have h4:=h3.learn hi (e:=(N i).c9) o3 (by rw [M2];exact o6) (by rw [M2];exact hch);rw [M2] at h4;exact h4
theorem PX.tChosen(h:PX N V P M)(hi:D3 i)(hm:M m)(hto:m.To=i)(hk:m.a0=5):G9 N M i (Z9 (N i) m).1 (Z9 (N i) m).2.1:=by
 obtain ⟨mi,mv⟩:=h.ms m hm;obtain ⟨hni,hid⟩:=h.ni i hi;have hr:=c5A hni mi hk;have hch:=mv.k5 hk;have hsl:=mi.sl;have hkd:m.c8<40/\s9 m.d7=true:=by
  rcases mi.kd with q|q|q|q|q|q|q
  ·omega
  ·omega
  ·omega
  ·exact ⟨q.2.2.1,q.2.2.2.1⟩
  all_goals exact absurd q.1 (by omega)
 unfold Z9 at hr ⊢;cases h1:decide (m.c8<((N i).a6.length:Int));case true=>exact .same h
 rw [h1] at hr;cases h2:decide (m.c8>((N i).a6.length:Int))
 ·simp only [e0P];simp only [decide_eq_false_iff_not] at h1 h2;refine h.learn hi hkd.2 (by omega) ?_;rw [show (N i).a6.length=m.c8.toNat by omega];exact hch
 ·rw [h2] at hr;simp only [e0P,e0O] at hr ⊢;exact .reply h (hr.ms _ (d84.2 rfl)) (.inr (.inr rfl))
theorem PX.tAsk(h:PX N V P M)(hi:D3 i)(hm:M m)(hto:m.To=i)(hk:m.a0=7):G9 N M i (U5 (N i) m).1 (U5 (N i) m).2:=by
 obtain ⟨mi,mv⟩:=h.ms m hm;obtain ⟨hni,hid⟩:=h.ni i hi;obtain ⟨e1,e2⟩:s9 m.d7=true/\m.d7.i7=false:=by
  rcases mi.kd with q|q|q|q|q|q|q
  ·omega
  ·omega
  ·omega
  ·omega
  ·omega
  ·exact ⟨q.2.2.2.1,q.2.2.2.2.1⟩
  ·omega
 unfold U5;cases hc:(N i).a9==0||(decide (4<=(N i).d8.length)||E7 (N i).a6 m.d7.a7)
 case true=>exact .same h
 simp only [e0P];simp only [d9O,decide_eq_false_iff_not] at hc;have h1:=h.queue hi (q:=(N i).d8++[m.d7]) (by rw [d9d,d90];omega) (by
  intro e he;rcases d80.1 he with q|q
  ·exact hni.qs e q
  ·rw [d84.1 q];exact ⟨e1,e2⟩)
 have h2:=h1.propose hi;rw [M2] at h2;obtain ⟨V',P',h2⟩:=h2;rw [a0W] at h2;exact ⟨V',P',h2⟩
theorem PX.tNeed(h:PX N V P M)(hi:D3 i)(hm:M m):G9 N M i (N i) (a0X (N i) m):=by
 obtain ⟨mi,mv⟩:=h.ms m hm;obtain ⟨hni,hid⟩:=h.ni i hi;have hr:=c35 hni mi;refine ⟨V,P,?_⟩;rw [a5C];refine h.send fun x hx=>⟨hr x hx,?_⟩
 unfold a0X at hx;obtain ⟨l,hl,hx⟩:=d9M.1 hx;obtain ⟨j,hj,rfl⟩:=d9l.1 hl;unfold V9 at hx;cases hk:(N i).a6[m.c8.toNat+j]? with
 | none=>rw [hk] at hx;cases hx
 | some e=>
  rw [hk] at hx;rw [d84.1 hx];refine .c5 rfl ?_;exact h.kn i _ e hi hk
theorem PX.tRefuse(h:PX N V P M)(hi:D3 i)(b:Int):G9 N M i (H4 {N i with Acc:=(C3 (N i).Acc b).getD (N i).Acc} b) []:=by
 refine ⟨V,P,?_⟩;rw [a4Z];cases hp:C3 (N i).Acc b with
 | none=>exact h.yield hi b
 | some x=>
  have h1:=(h.promise hi hp).yield hi b;rw [M2,a0W] at h1;exact h1
theorem PX.take(h:PX N V P M)(hi:D3 i)(hm:M m)(hto:m.To=i):G9 N M i (L0 (N i) m).1 (L0 (N i) m).2.1:=by
 unfold L0;by_cases k1:m.a0=1
 ·rw [show (m.a0==1)=true by simpa using k1];exact h.tPrepare hi hm hto k1
 rw [show (m.a0==1)=false by simpa using k1];by_cases k2:m.a0=2
 ·rw [show (m.a0==2)=true by simpa using k2];exact h.tPromise hi hm hto k2
 rw [show (m.a0==2)=false by simpa using k2];by_cases k3:m.a0=3
 ·rw [show (m.a0==3)=true by simpa using k3];exact h.tAccept hi hm hto k3
 rw [show (m.a0==3)=false by simpa using k3];by_cases k4:m.a0=4
 ·rw [show (m.a0==4)=true by simpa using k4];exact h.tAccepted hi hm hto k4
 rw [show (m.a0==4)=false by simpa using k4];by_cases k5:m.a0=5
 ·rw [show (m.a0==5)=true by simpa using k5];exact h.tChosen hi hm hto k5
 rw [show (m.a0==5)=false by simpa using k5];by_cases k6:m.a0=6
 ·rw [show (m.a0==6)=true by simpa using k6];exact h.tRefuse hi m.a5
 rw [show (m.a0==6)=false by simpa using k6];by_cases k7:m.a0=7
 ·rw [show (m.a0==7)=true by simpa using k7];exact h.tAsk hi hm hto k7
 rw [show (m.a0==7)=false by simpa using k7];cases m.a0==8
 ·exact .same h
 ·exact h.tNeed hi hm
end
section
variable {N:Int->j6} {V:VR} {P:PR} {M:MS} {i:Int}
theorem G9.to{n1 n2:j6}{l:List l8}(h1:PX (upd N i n1) V P M)(h2:G9 (upd N i n1) M i n2 l):G9 N M i n2 l:=by
 obtain ⟨V',P',h2⟩:=h2;rw [a0W] at h2;exact ⟨V',P',h2⟩
theorem PX.ask(h:PX N V P M)(hi:D3 i){p:List m5}(hp:s6 p):G9 N M i (D5 (N i) p).1 (D5 (N i) p).2:=by
 obtain ⟨hni,hid⟩:=h.ni i hi;have hr:=a8R hni hp;rw [Y2] at hr ⊢;cases hc:H8 (N i) p;case false=>exact .same h
 rw [hc] at hr;have hn:=hni.asked hp hc;have h1:PX (upd N i (F3 (N i) p)) V P M:=h.keep hi hn hid (d9p _) rfl rfl rfl rfl rfl rfl rfl rfl;simp only [e0O] at hr ⊢;cases h2:(N i).a9==2
 ·rw [h2] at hr;simp only [e0P] at hr ⊢;refine .to h1 ⟨V,P,?_⟩;rw [a0W];refine h1.send fun x hx=>⟨hr.ms x hx,?_⟩
  cases h0:(N i).a9==0
  ·rw [h0] at hx;cases hx
  ·rw [h0] at hx;obtain ⟨t,_,_,_,rfl⟩:=a1M hni.id hx;exact .other (.inr (.inl rfl))
 ·simp only [e0O];have h3:=h1.propose hi;rw [M2] at h3;exact .to h1 h3
theorem PX.retry(h:PX N V P M)(hi:D3 i):G9 N M i (K7 (N i)).1 (K7 (N i)).2:=by
 obtain ⟨hni,hid⟩:=h.ni i hi;have hr:=a7G hni;have hneed:∀x∈C2 (N i).Id ⟨8,0,0,0,((N i).a6.length:Int),zE,[]⟩,MV N V P x:=fun x hx=>by
  obtain ⟨t,_,_,_,rfl⟩:=a1M hni.id hx;exact .other (.inr (.inr rfl))
 have go:∀{l:List l8},(∀x∈C2 (N i).Id ⟨8,0,0,0,((N i).a6.length:Int),zE,[]⟩++l,MI x)->(∀x∈l,MV N V P x)->G9 N M i (N i) (C2 (N i).Id ⟨8,0,0,0,((N i).a6.length:Int),zE,[]⟩++l):=fun {l} hm hv=>
  ⟨V,P,by rw [a5C];exact h.send fun x hx=>⟨hm x hx,(d80.1 hx).elim (hneed x) (hv x)⟩⟩
 unfold K7 at hr ⊢;by_cases h1:(N i).a9=1
 ·rw [show ((N i).a9==1)=true by simpa using h1] at hr ⊢;refine go hr.ms fun x hx => ?_
  obtain ⟨t,_,_,_,rfl⟩:=a1M hni.id hx;exact .c1 rfl ⟨(hni.ld.own (by omega)).mod,by show _<=((N (N i).Id).a6.length:Int);rw [hid];exact d9p _⟩
 rw [show ((N i).a9==1)=false by simpa using h1] at hr ⊢;by_cases h2:(N i).a9=2
 ·rw [show ((N i).a9==2)=true by simpa using h2] at hr ⊢;simp only [e0O,e0P] at hr ⊢;have hs:PX N V P (snd M (C2 (N i).Id ⟨8,0,0,0,((N i).a6.length:Int),zE,[]⟩)):=h.send fun x hx=>⟨hr.ms x (d96 _ hx),hneed x hx⟩
  obtain ⟨V',P',h3⟩:=hs.propose hi;rw [b97] at h3;exact ⟨V',P',h3⟩
 rw [show ((N i).a9==2)=false by simpa using h2] at hr ⊢;by_cases h3:(N i).a9=3
 ·rw [show ((N i).a9==3)=true by simpa using h3] at hr ⊢;refine go hr.ms fun x hx => ?_
  obtain ⟨t,_,_,_,rfl⟩:=a1M hni.id hx;exact .c3 rfl ((h.ld i hi).l3 h3).1
 rw [show ((N i).a9==3)=false by simpa using h3] at hr ⊢;cases hb:(N i).i4
 ·rw [hb] at hr;refine ⟨V,P,?_⟩;show PX (upd N i (N i)) V P _
  rw [a5C];exact h.send fun x hx=>⟨hr.ms x hx,hneed x hx⟩
 ·rw [hb] at hr;refine go hr.ms fun x hx => ?_
  obtain ⟨t,_,_,_,rfl⟩:=a1M hni.id hx;exact .other (.inr (.inl rfl))
theorem PX.fall(h:PX N V P M)(hi:D3 i):G9 N M i (Y5 (N i)) []:=
 ⟨V,P,by rw [a4Z];exact h.quiet hi (h.ni i hi).1.fall (h.ni i hi).2 (d9p _) rfl rfl (.none rfl)⟩
end
def q9(w:j8)(j:Int):j6:=if 0<=j/\j<=2 then u7 w j else A2 0
def PW(w:j8):Prop := ∃V P M,PX (q9 w) V P M/\∀m∈w.g8,M m
theorem a0E{w:j8}{j:Int}(h:D3 j):q9 w j=u7 w j:=if_pos h
theorem d1S{w w':j8}(h:w'.c6=w.c6):q9 w'=q9 w:=by
 funext j;unfold q9 u7;rw [h]
theorem d6h{w:j8}(h:WI w){i:Nat}(hi:i<3)(n:j6){w':j8}(hw:w'.c6=w.c6.set i n):q9 w'=upd (q9 w) (i:Int) n:=by
 have hl:=h.nl;funext j
 unfold q9 upd u7;rw [hw];show _=if j=(i:Int) then n else if 0<=j/\j<=2 then w.c6.getD j.toNat (A2 0) else A2 0
 by_cases hj:0<=j/\j<=2
 ·rw [if_pos hj,if_pos hj];by_cases q:j=(i:Int)
  ·subst q;rw [if_pos rfl,d9q,d9b,d99 (by omega)];rfl
  ·rw [if_neg q,d9b,d9h (by omega),<-d9b]
 ·rw [if_neg hj,if_neg hj,if_neg (by omega)]
theorem PW.put{w w':j8}(h:WI w){i:Nat}(hi:i<3){n':j6}{l:List l8}{V:VR}{P:PR}{M:MS}(hM:∀m∈w.g8,M m)(hg:G9 (q9 w) M (i:Int) n' l)(hn:w'.c6=w.c6.set i n')(hm:∀m∈w'.g8,m∈w.g8\/m∈l):PW w':=by
 obtain ⟨V',P',h'⟩:=hg;refine ⟨V',P',_,by rw [d6h h hi n' hn];exact h',fun m hm' => ?_⟩;exact (hm m hm').imp (hM m) id
theorem PW.less{w w':j8}(h:PW w)(hn:w'.c6=w.c6)(hm:∀m∈w'.g8,m∈w.g8):PW w':=by
 obtain ⟨V,P,M,h1,h2⟩:=h;exact ⟨V,P,M,by rw [d1S hn];exact h1,fun m q=>h2 m (hm m q)⟩
theorem a0x{w:j8}{l:List l8}{m:l8}(h:m∈(M7 w l).g8):m∈w.g8\/m∈l:=
 (d80.1 h).imp id d9C
theorem b1F{w:j8}{i:Int}{m:l8}(h:m∈(X9 w i).g8):m∈w.g8:=
 (d80.1 h).elim d9C d9N
theorem c7L{w:j8}(h:WI w)(hp:PW w){e:F9}(he:a1B e):PW (E0 w e):=by
 obtain ⟨V,P,M,h1,hM⟩:=hp;have hp:PW w:=⟨V,P,M,h1,hM⟩
 unfold E0;cases hk:e.a0==2||(e.a0==3||e.a0==4)
 ·simp only [e0P];cases hA:m9 e.A 0 2
  ·exact hp
  simp only [d9e,e0P];rw [C7] at hA;obtain ⟨i,hi⟩:∃i:Nat,e.A=(i:Int):=⟨e.A.toNat,by omega⟩
  have hi3:i<3:=by omega
  have hD:D3 (i:Int):=by unfold D3;omega
  rw [hi];have hN:q9 w (i:Int)=u7 w (i:Int):=a0E hD;cases e.a0==1
  ·cases e.a0==5
   ·cases e.a0==6
    ·cases e.a0==7
     ·exact hp
     ·have hg:=h1.fall hD;rw [hN] at hg;exact PW.put (V:=V) (P:=P) h hi3 hM hg rfl fun m hm=>.inl hm
    ·have hg:=h1.retry hD;rw [hN] at hg;exact PW.put (V:=V) (P:=P) h hi3 hM hg rfl fun m hm=>a0x (w:=D9 w _ _) hm
   ·have hg:=h1.rise hD;rw [hN] at hg;exact PW.put (V:=V) (P:=P) h hi3 hM hg rfl fun m hm=>a0x (w:=D9 w _ _) hm
  ·simp only [e0O];unfold a0T;cases decide (60<=w.g9.length)
   ·have hg:=h1.ask hD (z0.fits he (by decide));rw [hN] at hg;simp only [e0P];cases decide ((D5 (u7 w (i:Int)) e.i6).1.Seq>(u7 w (i:Int)).Seq)
    ·exact PW.put (V:=V) (P:=P) h hi3 hM hg rfl fun m hm=>a0x (w:=D9 w _ _) hm
    ·exact PW.put (V:=V) (P:=P) h hi3 hM hg rfl fun m hm=>a0x (w:=D9 {w with g9:=w.g9++[_]} _ _) hm
   ·exact hp
 ·simp only [e0O];unfold Z0;cases hA:decide (0<=e.A)
  ·exact hp
  simp only [e0O];cases hm:w.g8[e.A.toNat]? with
  | none=>exact hp
  | some m=>
   have hmem:=d9a hm;simp only;cases e.a0==4
   ·cases e.a0==3
    ·simp only [e0P];have hmi:=(h1.ms m (hM m hmem)).1;have hto:=hmi.to;obtain ⟨t,htt⟩:∃t:Nat,m.To=(t:Int):=⟨m.To.toNat,by omega⟩
     have hD:D3 (t:Int):=by unfold D3;omega
     have hN:q9 w (t:Int)=u7 w (t:Int):=a0E hD;have hg:=h1.take hD (hM m hmem) htt;rw [hN] at hg;rw [htt];exact PW.put (V:=V) (P:=P) h (show t<3 by omega) hM hg rfl fun x hx=>(a0x (w:=D9 (X9 w e.A) _ _) hx).imp (fun q=>b1F q) id
    ·exact hp.less rfl fun x hx=>b1F hx
   ·exact hp.less rfl fun x hx=>(a0x hx).elim id fun q=>by rw [d84.1 q];exact hmem
theorem c9e:PW L3:=by
 have hn:∀j,D3 j->q9 L3 j=A2 j:=fun j hj=>by
  rw [a0E hj];unfold D3 at hj;obtain rfl|rfl|rfl:j=0\/j=1\/j=2:=by omega
  all_goals rfl
 refine ⟨fun _ _ _ _=>False,fun _ _ _=>False,fun _=>False,⟨fun i hi => ?_,fun _ _ _ _ v=>v.elim,fun i s v hi hs _ => ?_,fun _ _ _ _ v=>v.elim,fun _ _ _ _ p=>p.elim,fun _ _ _ p=>p.elim,fun _ _ _ p=>p.elim,fun i hi => ?_,fun i s e hi hk => ?_,fun _ hm=>hm.elim⟩,fun m hm=>by cases hm⟩
 ·rw [hn i hi];exact ⟨NI.open hi,rfl⟩
 ·rw [hn i hi] at hs;simp [A2] at hs
 ·rw [hn i hi];exact .none rfl
 ·rw [hn i hi] at hk;simp [A2] at hk
structure ND(L:l7->Prop)(n:j6):Prop where
 kn:∀e∈n.a6,L e
 av:∀v∈n.Acc.a8,v.a5>0->L v.d7
 bv:∀v∈n.f0,v.a5>0->L v.d7
 cu:n.a9=3->L n.c9
 wt:n.i4=true->L n.b8
 qu:∀e∈n.d8,L e
structure ML(L:l7->Prop)(m:l8):Prop where
 en:m.a0=3\/m.a0=5\/m.a0=7->L m.d7
 vs:∀v∈m.a8,v.a5>0->L v.d7
def TO(n x:j6)(ts:List r9):Prop:=ts=[]\/(n.i4=true/\x.i4=false/\∃k,x.a6.findIdx? (E8 n.b8.a7)=some k/\ts=[⟨n.Id,n.b8.a7,P7 x.a6 k,bif P7 x.a6 k==0 then X0 x.a6 n.b8.a7 else 0⟩])
structure Act(L:l7->Prop)(n x:j6)(l:List l8)(ts:List r9):Prop where
 id:x.Id=n.Id
 sq:x.Seq=n.Seq
 kn:∃t,x.a6=n.a6++t
 bw:(x.i4=n.i4/\x.b8=n.b8)\/x.i4=false
 nd:ND L x
 ml:∀m∈l,ML L m
 to:TO n x ts
section
variable {L:l7->Prop} {n:j6} {m:l8}
theorem Act.same(h:ND L n):Act L n n [] []:=⟨rfl,rfl,⟨[],by simp⟩,.inl ⟨rfl,rfl⟩,h,by simp,.inl rfl⟩
theorem Act.of{x:j6}{l:List l8}(e1:x.Id=n.Id)(e2:x.Seq=n.Seq)(e3:x.a6=n.a6)(e4:x.i4=n.i4)(e5:x.b8=n.b8)(h:ND L x)(hm:∀m∈l,ML L m):Act L n x l []:=
 ⟨e1,e2,⟨[],by rw [e3];simp⟩,.inl ⟨e4,e5⟩,h,hm,.inl rfl⟩
theorem ML.plain(h1:m.a0≠3)(h2:m.a0≠5)(h3:m.a0≠7)(hv:m.a8=[]):ML L m:=⟨fun h=>by omega,by rw [hv];simp⟩
theorem ML.has(hv:m.a8=[])(h:L m.d7):ML L m:=⟨fun _=>h,by rw [hv];simp⟩
theorem ML.all{id:Int}{x:l8}(h:ML L m)(hx:x∈C2 id m):ML L x:=by
 unfold C2 at hx;obtain ⟨t,_,rfl⟩:=d9l.1 hx;exact ⟨h.en,h.vs⟩
theorem ND.down(h:ND L n):ND L (a15 n):=⟨h.kn,h.av,by simp [a15],fun q=>absurd (show (0:Int)=3 from q) (by decide),h.wt,h.qu⟩
theorem ND.yield(h:ND L n)(b:Int):ND L (H4 n b):=by
 unfold H4;cases n.a9 != 0&&decide (b>n.a5)
 ·exact h
 ·exact h.down
theorem b6v(n:j6)(b:Int):(H4 n b).Seq=n.Seq/\(H4 n b).a6=n.a6/\(H4 n b).i4=n.i4/\(H4 n b).b8=n.b8:=by
 unfold H4;cases n.a9 != 0&&decide (b>n.a5)<;>exact ⟨rfl,rfl,rfl,rfl⟩
theorem ND.next(h:ND L n)(h0:L eN){e:l7}(hn:a0C n e):L e:=by
 cases hn with
 | best v hv hb=>exact h.bv v (d9a hv) hb
 | gap=>exact h0
 | want hb=>exact h.wt hb
 | queue e he=>exact h.qu e he
theorem b8t{a x:v6}{b s:Int}{e:l7}(hc:D7 a b s e=some x)(h:∀v∈a.a8,v.a5>0->L v.d7)(he:L e):∀v∈x.a8,v.a5>0->L v.d7:=by
 obtain ⟨k,rfl,_,_,_,_,_,rfl⟩:=b0Y hc;intro v hv hb;rcases c0A hv with q|q
 ·rcases b54 q with q|q
  ·exact h v q hb
  ·rw [q] at hb;exact absurd hb (by decide)
 ·rw [q];exact he
theorem Act.propose(h:ND L n)(h0:L eN):Act L n (E2 n).1 (E2 n).2 []:=by
 unfold E2;cases n.a9 != 2||decide (40<=n.a6.length)
 case true=>exact .same h
 simp only [e0P];obtain ⟨q,hq,hql,hqm,hqe⟩:=a6r n;cases hx:R5 n with
 | mk x o=>
 rw [hx] at hq hqe;have hq:x={n with d8:=q}:=hq;subst hq;have hQ:ND L {n with d8:=q}:=⟨h.kn,h.av,h.bv,h.cu,h.wt,fun e he=>h.qu e (hqm e he)⟩
 cases o with
 | none=>exact .of rfl rfl rfl rfl rfl hQ (by simp)
 | some e=>
  have he:=h.next h0 (hqe e rfl);simp only [a1o];cases hc:D7 n.Acc n.a5 (n.a6.length:Int) e with
  | none=>exact .of rfl rfl rfl rfl rfl hQ.down (by simp)
  | some a=>exact .of rfl rfl rfl rfl rfl ⟨h.kn,b8t hc h.av he,h.bv,fun _=>he,h.wt,hQ.qu⟩ fun m hm=>(ML.has rfl he).all hm
theorem Act.thenP{a:j6}{l:List l8}{ts:List r9}(h:Act L n a l ts)(h0:L eN):Act L n (E2 a).1 (l++(E2 a).2) ts:=by
 have hp:=Act.propose h.nd h0;have hk:=b2o a;obtain ⟨t,ht⟩:=h.kn;refine ⟨hk.id.trans h.id,hk.seq.trans h.sq,⟨t,hk.known.trans ht⟩,h.bw.imp (fun q=>⟨hk.busy.trans q.1,hk.want.trans q.2⟩) fun q=>hk.busy.trans q,hp.nd,fun m hm=>(d80.1 hm).elim (h.ml m) (hp.ml m),?_⟩;unfold TO;rw [hk.known,hk.busy];exact h.to
theorem Act.know{e:l7}(h:ND L n)(he:L e):Act L n (M9 (A9 n e)).1 [] (M9 (A9 n e)).2:=by
 have k1:(A9 n e).Id=n.Id:=b7n n e;have k2:(A9 n e).Seq=n.Seq:=by unfold A9;cases n.a9==3<;>rfl
 have k3:(A9 n e).a6=n.a6++[e]:=b7U n e;have k4:(A9 n e).i4=n.i4/\(A9 n e).b8=n.b8:=by unfold A9;cases n.a9==3<;>exact ⟨rfl,rfl⟩
 have kk:∀x∈n.a6++[e],L x:=fun x hx=>(d80.1 hx).elim (h.kn x) fun q=>by rw [d84.1 q];exact he
 have hnd:ND L (A9 n e):=by
  unfold A9;cases hp:n.a9==3
  ·exact ⟨kk,h.av,h.bv,h.cu,h.wt,h.qu⟩
  ·exact ⟨kk,h.av,h.bv,fun q=>absurd (show (2:Int)=3 from q) (by decide),h.wt,h.qu⟩
 rcases a8P (A9 n e) with q|⟨k,q1,q2,q⟩<;>rw [q]
 ·exact ⟨k1,k2,⟨[e],k3⟩,.inl k4,hnd,by simp,.inl rfl⟩
 ·refine ⟨k1,k2,⟨[e],k3⟩,.inr rfl,⟨hnd.kn,hnd.av,hnd.bv,hnd.cu,fun q=>(by cases q),hnd.qu⟩,by simp,.inr ⟨by rw [<-k4.1];exact q1,rfl,k,by rw [<-k4.2];exact q2,?_⟩⟩;rw [<-k4.2,<-k1];rfl
theorem Act.learn{e:l7}(h:ND L n)(h0:L eN)(he:L e):Act L n (Q1 n e).1 (Q1 n e).2.1 (Q1 n e).2.2:=by
 have:=(Act.know h he).thenP h0;rw [d9U] at this;exact this
theorem d56{α:Type}{l:List α}{k:Nat}{x:α}(h:x∈l.drop k):x∈l:=d9N h
theorem Act.take(h:ND L n)(h0:L eN)(hm:ML L m)(hmi:MI m):Act L n (L0 n m).1 (L0 n m).2.1 (L0 n m).2.2:=by
 unfold L0;by_cases k1:m.a0=1
 ·rw [show (m.a0==1)=true by simpa using k1];simp only [e0O];unfold U9;cases hp:C3 n.Acc m.a5 with
  | none=>exact .of rfl rfl rfl rfl rfl h fun x hx=>by rw [d84.1 hx];exact .plain (by simp [G7]) (by simp [G7]) (by simp [G7]) rfl
  | some a=>
   obtain ⟨rfl,_⟩:=a2W hp;obtain ⟨y1,y2,y3,y4⟩:=b6v {n with Acc:=⟨m.a5,n.Acc.a8⟩} m.a5;have hg:ND L {n with Acc:=⟨m.a5,n.Acc.a8⟩}:=⟨h.kn,h.av,h.bv,h.cu,h.wt,h.qu⟩
   refine .of (a3w _ _) y1 y2 y3 y4 (hg.yield _) fun x hx => ?_
   rw [d84.1 hx];exact ⟨fun q=>by simp [G7] at q,fun v hv=>h.av v (d56 hv)⟩
 rw [show (m.a0==1)=false by simpa using k1];by_cases k2:m.a0=2
 ·rw [show (m.a0==2)=true by simpa using k2];simp only [e0O,e0P];unfold U3;have hb:∀v∈B2 n.f0 (d81 m.c8.toNat v0++m.a8),v.a5>0->L v.d7:=fun v hv hb=>by
   rcases a6v hv with q|q
   ·exact h.bv v q hb
   ·rcases d80.1 q with q|q
    ·rw [(d9P.1 q).2] at hb;exact absurd hb (by decide)
    ·exact hm.vs v q hb
  cases n.a9 != 1||m.a5 != n.a5
  ·simp only [e0P];cases F7 (n.b7.set m.b7.toNat true)
   ·exact .of rfl rfl rfl rfl rfl ⟨h.kn,h.av,hb,h.cu,h.wt,h.qu⟩ (by simp)
   ·simp only [e0O];have h1:Act L n {n with b7:=[],f0:=B2 n.f0 (d81 m.c8.toNat v0++m.a8),a9:=2} [] []:=.of rfl rfl rfl rfl rfl ⟨h.kn,h.av,hb,fun q=>absurd (show (2:Int)=3 from q) (by decide),h.wt,h.qu⟩ (by simp);have h2:=h1.thenP h0;rw [d9U] at h2;exact h2
  ·exact .same h
 rw [show (m.a0==2)=false by simpa using k2];by_cases k3:m.a0=3
 ·rw [show (m.a0==3)=true by simpa using k3];simp only [e0O,e0P];unfold U2;cases hp:D7 n.Acc m.a5 m.c8 m.d7 with
  | none=>exact .of rfl rfl rfl rfl rfl h fun x hx=>by rw [d84.1 hx];exact .plain (by simp [G7]) (by simp [G7]) (by simp [G7]) rfl
  | some a=>
   obtain ⟨y1,y2,y3,y4⟩:=b6v {n with Acc:=a} m.a5;have hg:ND L {n with Acc:=a}:=⟨h.kn,b8t hp h.av (hm.en (.inl k3)),h.bv,h.cu,h.wt,h.qu⟩
   refine .of (a3w _ _) y1 y2 y3 y4 (hg.yield _) fun x hx => ?_
   rw [d84.1 hx];exact .plain (by simp [G7]) (by simp [G7]) (by simp [G7]) rfl
 rw [show (m.a0==3)=false by simpa using k3];by_cases k4:m.a0=4
 ·rw [show (m.a0==4)=true by simpa using k4];simp only [e0O,e0P];unfold a0l;cases hc:n.a9 != 3||(m.a5 != n.a5||m.c8 != (n.a6.length:Int))
  ·simp only [e0P];simp only [d9O,bne_eq_false_iff_eq] at hc;have hcu:=h.cu hc.1;have h1:ND L {n with a8:=n.a8.set m.b7.toNat true}:=⟨h.kn,h.av,h.bv,h.cu,h.wt,h.qu⟩
   cases F7 (n.a8.set m.b7.toNat true)
   ·exact .of rfl rfl rfl rfl rfl h1 (by simp)
   ·simp only [e0O];have h2:=Act.learn h1 h0 hcu;exact ⟨h2.id,h2.sq,h2.kn,h2.bw,h2.nd,fun x hx=>(d80.1 hx).elim (fun q=>(ML.has rfl hcu).all q) (h2.ml x),h2.to⟩
  ·exact .same h
 rw [show (m.a0==4)=false by simpa using k4];by_cases k5:m.a0=5
 ·rw [show (m.a0==5)=true by simpa using k5];simp only [e0O,e0P];unfold Z9;cases decide (m.c8<(n.a6.length:Int))
  ·cases decide (m.c8>(n.a6.length:Int))
   ·exact .learn h h0 (hm.en (.inr (.inl k5)))
   ·exact .of rfl rfl rfl rfl rfl h fun x hx=>by rw [d84.1 hx];exact .plain (by simp [G7]) (by simp [G7]) (by simp [G7]) rfl
  ·exact .same h
 rw [show (m.a0==5)=false by simpa using k5];by_cases k6:m.a0=6
 ·rw [show (m.a0==6)=true by simpa using k6];simp only [e0O,e0P];have hg:ND L {n with Acc:=(C3 n.Acc m.a5).getD n.Acc}:=by
   cases hp:C3 n.Acc m.a5 with
   | none=>exact h
   | some a=>
    obtain ⟨rfl,_⟩:=a2W hp;exact ⟨h.kn,h.av,h.bv,h.cu,h.wt,h.qu⟩
  obtain ⟨y1,y2,y3,y4⟩:=b6v {n with Acc:=(C3 n.Acc m.a5).getD n.Acc} m.a5;exact .of (a3w _ _) y1 y2 y3 y4 (hg.yield _) (by simp)
 rw [show (m.a0==6)=false by simpa using k6];by_cases k7:m.a0=7
 ·rw [show (m.a0==7)=true by simpa using k7];simp only [e0O,e0P];unfold U5;cases n.a9==0||(decide (4<=n.d8.length)||E7 n.a6 m.d7.a7)
  ·simp only [e0P];have h1:Act L n {n with d8:=n.d8++[m.d7]} [] []:=.of rfl rfl rfl rfl rfl ⟨h.kn,h.av,h.bv,h.cu,h.wt,fun e he=>(d80.1 he).elim (h.qu e) fun q=>by rw [d84.1 q];exact hm.en (.inr (.inr k7))⟩ (by simp);have h2:=h1.thenP h0;rw [d9U] at h2;exact h2
  ·exact .same h
 rw [show (m.a0==7)=false by simpa using k7];cases m.a0==8
 ·exact .same h
 ·refine .of rfl rfl rfl rfl rfl h fun x hx => ?_
  obtain ⟨l,hl,hx⟩:=d9M.1 hx;obtain ⟨j,hj,rfl⟩:=d9l.1 hl;unfold V9 at hx;cases hk:n.a6[m.c8.toNat+j]? with
  | none=>rw [hk] at hx;cases hx
  | some e=>
   rw [hk] at hx;rw [d84.1 hx];exact .has rfl (h.kn e (d9a hk))
theorem Act.rise(h:ND L n):Act L n (M5 n).1 (M5 n).2 []:=by
 unfold M5;cases decide (H3 n.Acc.d9 n.Id<0)
 ·refine .of rfl rfl rfl rfl rfl ⟨h.kn,h.av,h.av,fun q=>absurd (show (1:Int)=3 from q) (by decide),h.wt,h.qu⟩ fun x hx=>(ML.plain (by simp) (by simp) (by simp) rfl).all hx
 ·exact .same h
theorem Act.retry(h:ND L n)(h0:L eN):Act L n (K7 n).1 (K7 n).2 []:=by
 have hn:∀x∈C2 n.Id ⟨8,0,0,0,(n.a6.length:Int),zE,[]⟩,ML L x:=fun x hx=>(ML.plain (by simp) (by simp) (by simp) rfl).all hx
 have F7:∀{l:List l8},(∀x∈l,ML L x)->Act L n n (C2 n.Id ⟨8,0,0,0,(n.a6.length:Int),zE,[]⟩++l) []:=fun {l} hl=>.of rfl rfl rfl rfl rfl h fun x hx=>(d80.1 hx).elim (hn x) (hl x)
 unfold K7;by_cases h1:n.a9=1
 ·rw [show (n.a9==1)=true by simpa using h1];exact F7 fun x hx=>(ML.plain (by simp) (by simp) (by simp) rfl).all hx
 rw [show (n.a9==1)=false by simpa using h1];by_cases h2:n.a9=2
 ·rw [show (n.a9==2)=true by simpa using h2];have hp:Act L n n (C2 n.Id ⟨8,0,0,0,(n.a6.length:Int),zE,[]⟩) []:=.of rfl rfl rfl rfl rfl h hn;exact hp.thenP h0
 rw [show (n.a9==2)=false by simpa using h2];by_cases h3:n.a9=3
 ·rw [show (n.a9==3)=true by simpa using h3];exact F7 fun x hx=>(ML.has rfl (h.cu h3)).all hx
 rw [show (n.a9==3)=false by simpa using h3];cases hb:n.i4
 ·exact .of rfl rfl rfl rfl rfl h hn
 ·exact F7 fun x hx=>(ML.has rfl (h.wt hb)).all hx
theorem Act.fall(h:ND L n):Act L n (Y5 n) [] []:=⟨rfl,rfl,⟨[],by simp [Y5,A2]⟩,.inr rfl,⟨h.kn,h.av,by simp [Y5,A2],fun q=>absurd (show (0:Int)=3 from q) (by decide),fun q=>(by cases q),by simp [Y5,A2]⟩,by simp,.inl rfl⟩
theorem d4I(h:ND L n)(h0:L eN){p:List m5}(hc:H8 n p=true)(hw:L (F3 n p).b8):Act L (F3 n p) (D5 n p).1 (D5 n p).2 []:=by
 have h1:ND L (F3 n p):=⟨h.kn,h.av,h.bv,h.cu,fun _=>hw,h.qu⟩
 rw [Y2,hc];simp only [e0O];cases n.a9==2
 ·refine .of rfl rfl rfl rfl rfl h1 fun x hx => ?_
  simp only [e0P] at hx;cases h0:n.a9==0
  ·rw [h0] at hx;cases hx
  ·rw [h0] at hx;exact (ML.has rfl hw).all hx
 ·exact .propose h1 h0
theorem ND.mono{L':l7->Prop}(h:ND L n)(hi:∀e,L e->L' e):ND L' n:=⟨fun e q=>hi e (h.kn e q),fun v q b=>hi _ (h.av v q b),fun v q b=>hi _ (h.bv v q b),fun q=>hi _ (h.cu q),fun q=>hi _ (h.wt q),fun e q=>hi e (h.qu e q)⟩
theorem ML.mono{L':l7->Prop}(h:ML L m)(hi:∀e,L e->L' e):ML L' m:=⟨fun q=>hi _ (h.en q),fun v q b=>hi _ (h.vs v q b)⟩
end
def V0(w:j8)(e:l7):Prop:=e.i7=true\/∃a∈w.g9,a.a7=e.a7/\∃j,j<=(q9 w e.a7.b9).a6.length/\(∀x∈(q9 w e.a7.b9).a6.take j,E8 e.a7 x=false)/\e.d6=A6 (u5 ((q9 w e.a7.b9).a6.take j)).1.i0 a.i6
def a5f(l:List l7)(t:r9):Prop := ∃k,l.findIdx? (E8 t.a7)=some k/\t.Code=P7 l k/\t.c7=bif P7 l k==0 then X0 l t.a7 else 0
structure TL(w:j8):Prop where
 nd:∀i,D3 i->ND (V0 w) (q9 w i)
 ml:∀m∈w.g8,ML (V0 w) m
 aq:∀a∈w.g9,D3 a.a7.b9/\1<=a.a7.Seq/\a.a7.Seq<=(q9 w a.a7.b9).Seq
 au:(w.g9.map (·.a7)).Nodup
 tn:∀t∈w.Told,t.Node=t.a7.b9/\D3 t.Node/\(∃a∈w.g9,a.a7=t.a7)/\((q9 w t.Node).i4=true->t.a7.Seq<(q9 w t.Node).Seq)/\a5f (q9 w t.Node).a6 t
 tu:(w.Told.map (·.a7)).Nodup
theorem c2y{l t:List l7}{q:p9}{k:Nat}(h:l.findIdx? (E8 q)=some k):(l++t).findIdx? (E8 q)=some k:=by
 rw [List.findIdx?_append,h];rfl
theorem c1N{l t:List l7}{k:Nat}(h:G6 (l++t)=true)(hk:k<l.length):P7 (l++t) k=P7 l k:=by
 have hl:G6 l=true:=by
  unfold G6 at h ⊢;simp only [d9d,List.all_append,d82,decide_eq_true_eq] at h ⊢;exact ⟨by omega,h.2.1⟩
 rw [b0s h (by rw [d9d];omega),b0s hl hk,d9y (by omega),List.getElem_append_left hk]
theorem d4w{l t:List l7}{q:p9}{k:Nat}(h:l.findIdx? (E8 q)=some k):X0 (l++t) q=X0 l q:=by
 obtain ⟨hk,_⟩:=a6j h;unfold X0;rw [c2y h,h];simp only [d9i hk]
theorem a5f.app{l t:List l7}{x:r9}(h:a5f l x)(hl:G6 (l++t)=true):a5f (l++t) x:=by
 obtain ⟨k,h1,h2,h3⟩:=h;obtain ⟨hk,_⟩:=a6j h1;exact ⟨k,c2y h1,by rw [c1N hl hk];exact h2,by rw [c1N hl hk,d4w h1];exact h3⟩
theorem a6W{w:j8}(h:WI w){i:Int}(hi:D3 i):NI (q9 w i)/\(q9 w i).Id=i:=by
 rw [a0E hi];unfold D3 at hi;obtain ⟨k,rfl⟩:∃k:Nat,i=(k:Int):=⟨i.toNat,by omega⟩
 obtain ⟨n,_,h2,h3,h4,_⟩:=a1j h (i:=k) (by omega);rw [h2];exact ⟨h4,h3⟩
theorem b4Y{w w':j8}(hl:w.c6.length=3){i:Nat}(hi:i<3)(n:j6)(hw:w'.c6=w.c6.set i n)(j:Int):q9 w' j=if j=(i:Int) then n else q9 w j:=by
 unfold q9 u7;rw [hw];by_cases hj:0<=j/\j<=2
 ·rw [if_pos hj,if_pos hj];by_cases q:j=(i:Int)
  ·subst q;rw [if_pos rfl,d9q,d9b,d99 (by omega)];rfl
  ·rw [if_neg q,d9b,d9h (by omega),<-d9b]
 ·rw [if_neg hj,if_neg hj,if_neg (by omega)]
theorem V0.mono{w w':j8}(hk:∀j,∃t,(q9 w' j).a6=(q9 w j).a6++t)(ha:∀a∈w.g9,a∈w'.g9){e:l7}(h:V0 w e):V0 w' e:=by
 rcases h with h|⟨a,h1,h2,j,h3,h4,h5⟩
 ·exact .inl h
 ·obtain ⟨t,ht⟩:=hk e.a7.b9;refine .inr ⟨a,ha a h1,h2,j,by rw [ht,d9d];omega,?_,?_⟩
  ·rw [ht,d9y h3];exact h4
  ·rw [ht,d9y h3];exact h5
theorem TL.step{w w':j8}(h:TL w)(hl:w.c6.length=3){i:Nat}(hi:i<3)(hni:NI (q9 w (i:Int)))(hid:(q9 w (i:Int)).Id=(i:Int)){n':j6}{l:List l8}{ts:List r9}(hn':NI n')(ha:Act (V0 w) (q9 w (i:Int)) n' l ts)(hn:w'.c6=w.c6.set i n')(hm:∀m∈w'.g8,m∈w.g8\/m∈l)(hk:w'.g9=w.g9)(ht:w'.Told=w.Told\/w'.Told=w.Told++ts):TL w':=by
 have hJ:=b4Y hl hi n' hn;have hD:D3 (i:Int):=by unfold D3;omega
 have hJi:q9 w' (i:Int)=n':=by rw [hJ,if_pos rfl]
 have hkn:∀j,∃t,(q9 w' j).a6=(q9 w j).a6++t:=fun j=>by
  rw [hJ];split
  ·rename_i q;subst q;exact ha.kn
  ·exact ⟨[],by simp⟩
 have hmo:∀e,V0 w e->V0 w' e:=fun e=>V0.mono hkn (by rw [hk];exact fun _ q=>q)
 have hsq:∀j,(q9 w' j).Seq=(q9 w j).Seq:=fun j=>by
  rw [hJ];split
  ·rename_i q;subst q;exact ha.sq
  ·rfl
 have hls:∀j,D3 j->NI (q9 w j)->∀t,(q9 w' j).a6=(q9 w j).a6++t->G6 ((q9 w j).a6++t)=true\/(q9 w' j).a6=(q9 w j).a6:=fun j hj hjn t ht=>by
  by_cases q:j=(i:Int)
  ·subst q;rw [hJi] at ht;left;rw [<-ht];exact hn'.list
  ·right;rw [hJ,if_neg q]
 have old:∀t∈w.Told,t.Node=t.a7.b9/\D3 t.Node/\(∃a∈w'.g9,a.a7=t.a7)/\((q9 w' t.Node).i4=true->t.a7.Seq<(q9 w' t.Node).Seq)/\a5f (q9 w' t.Node).a6 t:=by
  intro t q;obtain ⟨x1,x2,x3,x4,x5⟩:=h.tn t q;refine ⟨x1,x2,by rw [hk];exact x3,fun hb => ?_,?_⟩
  ·rw [hsq];refine x4 ?_;rw [hJ] at hb;split at hb
   ·rename_i q;rw [q];rcases ha.bw with ⟨b,_⟩|b
    ·rw [<-b];exact hb
    ·rw [b] at hb;cases hb
   ·exact hb
  ·obtain ⟨t',ht'⟩:=hkn t.Node;rw [ht'];by_cases q:t.Node=(i:Int)
   ·refine x5.app ?_;rw [<-ht',q,hJi];exact hn'.list
   ·have:t'=[]:=by
     rw [hJ,if_neg q] at ht';have:=congrArg List.length ht';rw [d9d] at this;exact d9c (by omega)
    rw [this,d9D];exact x5
 have new:∀t∈ts,(t.Node=t.a7.b9/\D3 t.Node/\(∃a∈w'.g9,a.a7=t.a7)/\((q9 w' t.Node).i4=true->t.a7.Seq<(q9 w' t.Node).Seq)/\a5f (q9 w' t.Node).a6 t)/\ts=[t]/\(q9 w (i:Int)).i4=true/\t.a7=⟨(i:Int),(q9 w (i:Int)).Seq⟩:=by
  intro t q;rcases ha.to with e|⟨b1,b2,k,b3,b4⟩
  ·rw [e] at q;cases q
  ·rw [b4] at q;have q:=d84.1 q;have hw:(q9 w (i:Int)).b8.a7=⟨(i:Int),(q9 w (i:Int)).Seq⟩/\(q9 w (i:Int)).b8.i7=false:=by
    rcases hni.wt with y|y
    ·exact ⟨by rw [y.2.2.2.2,hid],y.2.2.2.1⟩
    ·rw [b1] at y;cases y.1
   have hlg:=(h.nd (i:Int) hD).wt b1;rcases hlg with y|⟨a,a1,a2,_⟩
   ·rw [hw.2] at y;cases y
   ·subst q;refine ⟨⟨?_,by show D3 _;rw [hid];exact hD,⟨a,by rw [hk];exact a1,a2⟩,?_,?_⟩,b4,b1,hw.1⟩
    ·show (q9 w (i:Int)).Id=(q9 w (i:Int)).b8.a7.b9
     rw [hw.1,hid]
    ·show (q9 w' (q9 w (i:Int)).Id).i4=true->_
     rw [hid,hJi,b2];intro y;cases y
    ·show a5f (q9 w' (q9 w (i:Int)).Id).a6 _
     rw [hid,hJi];exact ⟨k,b3,rfl,rfl⟩
 refine ⟨fun j hj => ?_,fun m q => ?_,fun a q => ?_,by rw [hk];exact h.au,fun t q => ?_,?_⟩
 ·rw [hJ];split
  ·exact ha.nd.mono hmo
  ·exact (h.nd j hj).mono hmo
 ·exact (hm m q).elim (fun q=>(h.ml m q).mono hmo) fun q=>(ha.ml m q).mono hmo
 ·rw [hk] at q;obtain ⟨x1,x2,x3⟩:=h.aq a q;exact ⟨x1,x2,by rw [hsq];exact x3⟩
 ·rcases ht with e|e
  ·rw [e] at q;exact old t q
  ·rw [e] at q;exact (d80.1 q).elim (old t) fun q=>(new t q).1
 ·rcases ht with e|e
  ·rw [e];exact h.tu
  ·rw [e,d9j];refine d89.2 ⟨h.tu,?_,?_⟩
   ·cases hts:ts with
    | nil=>simp
    | cons t r=>
     have:=(new t (by rw [hts];simp)).2.1;rw [hts] at this;injection this with _ hr;rw [hr];simp
   ·intro a ha' b hb' hab;obtain ⟨x,hx,rfl⟩:=d9l.1 ha';obtain ⟨y,hy,rfl⟩:=d9l.1 hb';obtain ⟨_,_,n3,n4⟩:=new y hy;obtain ⟨o1,o2,o3,o4,o5⟩:=h.tn x hx;rw [n4] at hab;have:x.Node=(i:Int):=by rw [o1,hab]
    have:=o4 (by rw [this];exact n3);rw [‹x.Node=(i:Int)›,hab] at this;simp only at this;omega
theorem TL.asked{w w':j8}(h:TL w)(hw:WI w){i:Nat}(hi:i<3){p:List m5}(hc:H8 (q9 w (i:Int)) p=true)(hn:w'.c6=w.c6.set i (F3 (q9 w (i:Int)) p))(hm:w'.g8=w.g8)(hk:w'.g9=w.g9++[⟨⟨(i:Int),(q9 w (i:Int)).Seq+1⟩,p⟩])(ht:w'.Told=w.Told):TL w':=by
 have hJ:=b4Y hw.nl hi _ hn;have hD:D3 (i:Int):=by unfold D3;omega
 obtain ⟨hni,hid⟩:=a6W hw hD;have hJi:q9 w' (i:Int)=F3 (q9 w (i:Int)) p:=by rw [hJ,if_pos rfl]
 have hkn:∀j,(q9 w' j).a6=(q9 w j).a6:=fun j=>by
  rw [hJ];split
  ·rename_i q;subst q;rfl
  ·rfl
 have hsq:∀j,(q9 w j).Seq<=(q9 w' j).Seq:=fun j=>by
  rw [hJ];split
  ·rename_i q;subst q;show _<=(q9 w (i:Int)).Seq+1;omega
  ·exact d9p _
 have hmo:∀e,V0 w e->V0 w' e:=fun e=>V0.mono (fun j=>⟨[],by rw [hkn,d9D]⟩) (by rw [hk];exact fun a q=>d96 _ q)
 have hnew:∀e,V0 w e->E8 ⟨(i:Int),(q9 w (i:Int)).Seq+1⟩ e=false:=fun e he=>by
  cases hq:E8 ⟨(i:Int),(q9 w (i:Int)).Seq+1⟩ e
  ·rfl
  ·unfold E8 at hq;simp only [d82,d9R] at hq;have hr:e.a7=⟨(i:Int),(q9 w (i:Int)).Seq+1⟩:=(b6f (b:=⟨(i:Int),(q9 w (i:Int)).Seq+1⟩)).1 hq.2;rcases he with he|⟨a,a1,a2,_⟩
   ·rw [hq.1] at he;cases he
   ·have:=(h.aq a a1).2.2;rw [a2,hr] at this;simp only at this;omega
 have hnd:=h.nd (i:Int) hD;refine ⟨fun j hj => ?_,fun m q=>(h.ml m (hm▸q)).mono hmo,fun a q => ?_,?_,fun t q => ?_,by rw [ht];exact h.tu⟩
 ·rw [hJ];split
  ·refine ⟨fun e q=>hmo e (hnd.kn e q),fun v q b=>hmo _ (hnd.av v q b),fun v q b=>hmo _ (hnd.bv v q b),fun q=>hmo _ (hnd.cu q),fun _ => ?_,fun e q=>hmo e (hnd.qu e q)⟩;refine .inr ⟨⟨⟨(i:Int),(q9 w (i:Int)).Seq+1⟩,p⟩,by rw [hk];simp,?_,(q9 w (i:Int)).a6.length,?_,?_,?_⟩
   ·show _=(⟨(q9 w (i:Int)).Id,(q9 w (i:Int)).Seq+1⟩:p9)
    rw [hid]
   ·show _<=(q9 w' (q9 w (i:Int)).Id).a6.length
    rw [hid,hkn];exact d9B _
   ·show ∀x∈(q9 w' (q9 w (i:Int)).Id).a6.take _,E8 (⟨(q9 w (i:Int)).Id,(q9 w (i:Int)).Seq+1⟩:p9) x=false
    rw [hid,hkn,d9L];exact fun x hx=>hnew x (hnd.kn x hx)
   ·show _=A6 (u5 ((q9 w' (q9 w (i:Int)).Id).a6.take _)).1.i0 p
    rw [hid,hkn,d9L];rfl
  ·exact (h.nd j hj).mono hmo
 ·rw [hk] at q;rcases d80.1 q with q|q
  ·obtain ⟨x1,x2,x3⟩:=h.aq a q;exact ⟨x1,x2,d9I x3 (hsq _)⟩
  ·rw [d84.1 q];refine ⟨hD,by have:=hni.sq;show 1<=(q9 w (i:Int)).Seq+1;omega,?_⟩;show _<=(q9 w' (i:Int)).Seq
   rw [hJi];exact d9p _
 ·rw [hk,d9j];refine d89.2 ⟨h.au,by simp,?_⟩;intro a ha b hb hab;obtain ⟨x,hx,rfl⟩:=d9l.1 ha;rw [e0e,d84] at hb;have:=(h.aq x hx).2.2;rw [hab,hb] at this;simp only at this;omega
 ·rw [ht] at q;obtain ⟨x1,x2,⟨a,a1,a2⟩,x4,x5⟩:=h.tn t q;refine ⟨x1,x2,⟨a,by rw [hk];exact d96 _ a1,a2⟩,fun hb => ?_,by rw [hkn];exact x5⟩;rw [hJ] at hb ⊢;split
  ·rename_i q;have:=(h.aq a a1).2.2;rw [a2,<-x1,q] at this;show _<(q9 w (i:Int)).Seq+1
   omega
  ·rename_i q;rw [if_neg q] at hb;exact x4 hb
theorem d18{w:j8}(h:WI w)(ht:TL w){e:F9}(he:a1B e):TL (E0 w e):=by
 have h0:V0 w eN:=.inl rfl;unfold E0;cases hk:e.a0==2||(e.a0==3||e.a0==4)
 ·simp only [e0P];cases hA:m9 e.A 0 2
  ·exact ht
  simp only [d9e,e0P];rw [C7] at hA;obtain ⟨i,hi⟩:∃i:Nat,e.A=(i:Int):=⟨e.A.toNat,by omega⟩
  have hi3:i<3:=by omega
  have hD:D3 (i:Int):=by unfold D3;omega
  rw [hi];have hN:q9 w (i:Int)=u7 w (i:Int):=a0E hD;obtain ⟨hni,hid⟩:=a6W h hD;have hnd:=ht.nd (i:Int) hD;rw [<-hN];cases e.a0==1
  ·cases e.a0==5
   ·cases e.a0==6
    ·cases e.a0==7
     ·exact ht
     ·exact ht.step h.nl hi3 hni hid hni.fall (.fall hnd) rfl (fun m q=>.inl q) rfl (.inl rfl)
    ·exact ht.step h.nl hi3 hni hid (a7G hni).ni (.retry hnd h0) rfl (fun m q=>a0x (w:=D9 w _ _) q) rfl (.inl rfl)
   ·exact ht.step h.nl hi3 hni hid (a8i hni).ni (.rise hnd) rfl (fun m q=>a0x (w:=D9 w _ _) q) rfl (.inl rfl)
  ·simp only [e0O];unfold a0T;cases hal:decide (60<=w.g9.length)
   ·rw [<-hN];simp only [e0P];rw [b73];cases hc:H8 (q9 w (i:Int)) e.i6
    ·simp only [e0P];rw [Y2,hc];exact ht.step h.nl hi3 hni hid hni (.same hnd) rfl (fun m q=>a0x (w:=D9 w _ _) q) rfl (.inl rfl)
    ·simp only [e0O];have hf:s6 e.i6:=z0.fits he (by decide);have hwq:(D5 (q9 w (i:Int)) e.i6).1.b8.a7=⟨(i:Int),(q9 w (i:Int)).Seq+1⟩:=by
      rw [b7D hc];show (⟨(q9 w (i:Int)).Id,_⟩:p9)=_;rw [hid]
     rw [hwq];have h1:TL ⟨w.c6.set i (F3 (q9 w (i:Int)) e.i6),w.g8,w.g9++[⟨⟨(i:Int),(q9 w (i:Int)).Seq+1⟩,e.i6⟩],w.Told⟩:=ht.asked h hi3 hc rfl rfl rfl rfl;have hJ:=b4Y (w':=⟨w.c6.set i (F3 (q9 w (i:Int)) e.i6),w.g8,w.g9++[⟨⟨(i:Int),(q9 w (i:Int)).Seq+1⟩,e.i6⟩],w.Told⟩) h.nl hi3 _ rfl (i:Int);rw [if_pos rfl] at hJ;have hnd1:=h1.nd (i:Int) hD;rw [hJ] at hnd1;have hni1:=hni.asked hf hc;have hcan:=hc;refine h1.step (i:=i) (n':=(D5 (q9 w (i:Int)) e.i6).1) (l:=(D5 (q9 w (i:Int)) e.i6).2) (ts:=[]) (by show (w.c6.set i _).length=3;rw [d9A];exact h.nl) hi3 (by rw [hJ];exact hni1) (by rw [hJ];exact hid) (a8R hni hf).ni ?_ ?_ (fun m q=>a0x (w:=D9 ⟨w.c6,w.g8,w.g9++[_],w.Told⟩ _ _) q) rfl (.inl rfl)
     ·rw [hJ];rw [Y2,hc];have h0':V0 ⟨w.c6.set i (F3 (q9 w (i:Int)) e.i6),w.g8,w.g9++[⟨⟨(i:Int),(q9 w (i:Int)).Seq+1⟩,e.i6⟩],w.Told⟩ eN:=.inl rfl;simp only [e0O];cases (q9 w (i:Int)).a9==2
      ·refine .of rfl rfl rfl rfl rfl hnd1 fun x hx => ?_
       simp only [e0P] at hx;cases hp0:(q9 w (i:Int)).a9==0
       ·rw [hp0] at hx;cases hx
       ·rw [hp0] at hx;exact (ML.has rfl (hnd1.wt rfl)).all hx
      ·exact .propose hnd1 h0'
     ·show w.c6.set _ _=(w.c6.set i _).set i _
      rw [List.set_set];rfl
   ·exact ht
 ·simp only [e0O];unfold Z0;cases hA:decide (0<=e.A)
  ·exact ht
  simp only [e0O];cases hm:w.g8[e.A.toNat]? with
  | none=>exact ht
  | some m=>
   have hmem:=d9a hm;have hmi:=h.ms m hmem;have hself:∀{w':j8},w'.c6=w.c6->w'.g9=w.g9->w'.Told=w.Told->(∀x∈w'.g8,x∈w.g8)->TL w':=fun {w'} e1 e2 e3 e4=>by
    obtain ⟨hni,hid⟩:=a6W h (i:=0) (by unfold D3;omega);refine ht.step (i:=0) h.nl (by omega) hni hid hni (.same (ht.nd 0 (by unfold D3;omega))) ?_ (fun x q=>.inl (e4 x q)) e2 (.inl e3);rw [e1];have hl:=h.nl;have:q9 w ((0:Nat):Int)=w.c6[0]:=by
     rw [a0E (by unfold D3;omega)];show w.c6.getD 0 _=_
     rw [d9b,d8Z (by omega)];rfl
    rw [show q9 w 0=w.c6[0] from this,e0E]
   simp only;cases e.a0==4
   ·cases e.a0==3
    ·simp only [e0P];have hto:=hmi.to;obtain ⟨t,htt⟩:∃t:Nat,m.To=(t:Int):=⟨m.To.toNat,by omega⟩
     have hD:D3 (t:Int):=by unfold D3;omega
     have hN:q9 w (t:Int)=u7 w (t:Int):=a0E hD;obtain ⟨hni,hid⟩:=a6W h hD;rw [htt,<-hN];have hact:=Act.take (ht.nd (t:Int) hD) h0 (ht.ml m hmem) hmi;refine ht.step h.nl (i:=t) (by omega) hni hid (b1i hni hmi).ni hact rfl (fun x q=>(a0x (w:=D9 (X9 w e.A) _ _) q).imp (fun q=>b1F q) id) rfl ?_;show (w.Told++List.take (60-w.Told.length) _=w.Told\/_)
     have hl1:=(b5v hni m).2;rcases Nat.eq_zero_or_pos (60-w.Told.length) with q|q
     ·left;rw [q,d9S,d9D]
     ·right
      show w.Told++List.take (60-w.Told.length) _=_
      rw [d9w (by omega)]
    ·exact hself rfl rfl rfl fun x q=>b1F q
   ·exact hself rfl rfl rfl fun x q=>(a0x q).elim id fun q=>by rw [d84.1 q];exact hmem
theorem c8z:TL L3:=by
 have hn:∀j,D3 j->q9 L3 j=A2 j:=fun j hj=>by
  rw [a0E hj];unfold D3 at hj;obtain rfl|rfl|rfl:j=0\/j=1\/j=2:=by omega
  all_goals rfl
 refine ⟨fun i hi => ?_,fun m hm=>(by cases hm),fun a ha=>(by cases ha),by simp [L3],fun t ht=>(by cases ht),by simp [L3]⟩;rw [hn i hi];exact ⟨by simp [A2],by simp [A2],by simp [A2],fun q=>absurd (show (0:Int)=3 from q) (by decide),fun q=>(by cases q),by simp [A2]⟩
section
variable {w:j8}
theorem d6X{α:Type}(z:α):∀{l:List α},l.length=3->l=[l.getD 0 z,l.getD 1 z,l.getD 2 z]
 | [a,b,c],_=>rfl
theorem d69(h:WI w):w.c6=[q9 w 0,q9 w 1,q9 w 2]:=by
 have e0:q9 w 0=w.c6.getD 0 (A2 0):=a0E (j:=0) (by unfold D3;omega);have e1:q9 w 1=w.c6.getD 1 (A2 0):=a0E (j:=1) (by unfold D3;omega);have e2:q9 w 2=w.c6.getD 2 (A2 0):=a0E (j:=2) (by unfold D3;omega);rw [e0,e1,e2];exact d6X (A2 0) h.nl
theorem c8q(h:WI w){i:Nat}(hi:i<w.c6.length):w.c6[i]=q9 w (i:Int)/\i<3:=by
 have hl:=h.nl;rw [a0E (by unfold D3;omega)];unfold u7;rw [d9q,d9b,d8Z hi];exact ⟨rfl,by omega⟩
end
def a5W(l:List m7)(rs:List p7):Prop := ∀r∈rs,∃b,l[r.g7.toNat]?=some b/\b.i8=r.i8
theorem c2x{l:List m7}(i:m5)(regs:List Int)(rs:List p7)(ps:List o7)(h:a5W l rs):a5W l (E4 l i regs rs ps).2.1:=by
 unfold E4;cases i.a0==1
 ·cases i.a0==2
  ·cases i.a0==3
   ·cases i.a0==4
    ·cases i.a0==5<;>exact h
    ·exact h
   ·exact h
  ·exact h
 ·simp only [e0O];cases W8 ps i.B with
  | some k=>
   simp only;cases ps[k]?<;>exact h
  | none=>
   simp only;cases hb:l[i.B.toNat]? with
   | none=>exact h
   | some b=>
    simp only;cases H5 rs i.B
    ·intro r hr;rcases d80.1 hr with q|q
     ·exact h r q
     ·rw [d84.1 q];exact ⟨b,hb,rfl⟩
    ·exact h
theorem b7J(l:List m7)(prog:List m5):∀(f k:Nat) (regs:List Int) (rs:List p7) (ps:List o7),a5W l rs->a5W l (X2 l prog f k regs rs ps).b5
 | 0,_,_,_,_,h=>h
 | f+1,k,regs,rs,ps,h=>by
  unfold X2;cases prog[k]? with
  | none=>exact h
  | some i=>
   simp only;cases i.a0==6
   ·cases i.a0==7
    ·cases (E4 l i regs rs ps).1.all I4
     ·exact c2x i regs rs ps h
     ·exact b7J l prog f _ _ _ _ (c2x i regs rs ps h)
    ·exact h
   ·exact b7J l prog f _ _ _ _ h
theorem d7F(l:List m7)(p:List m5):a5W l (A6 l p).b5:=by
 unfold A6;cases C0 l&&z9 p
 ·intro r hr;cases hr
 ·exact b7J l p _ _ _ _ _ fun r hr=>by cases hr
theorem c4m:∀(ps:List (List m5)) (p:List m5) (b:List m7) (vs:List Int) {b':List m7} {vs':List Int},a2w ps b vs=(b',vs')->C0 b'=true->a2w (ps++[p]) b vs=bif (H6 b' p).2.2==3 then ([],[]) else ((H6 b' p).1,vs'++[(H6 b' p).2.1])
 | [],p,b,vs,b',vs',h,hb=>by
  have h:(b,vs)=(b',vs'):=h;injection h with h1 h2;subst h1;subst h2;rfl
 | q::ps,p,b,vs,b',vs',h,hb=>by
  unfold a2w at h;rw [e0w];unfold a2w;cases hq:(H6 b q).2.2==3
  ·rw [hq] at h;exact c4m ps p _ _ h hb
  ·rw [hq] at h;have h:(([],[]):List m7×List Int)=(b',vs'):=h;injection h with h1 h2;rw [<-h1] at hb;exact absurd hb (by decide)
section
variable {w:j8}
theorem d6P(l:List m7):a7E l l=true:=by
 unfold a7E;simp only [beq_self_eq_true,d9m];rw [d86];intro k hk;have hk:k<l.length:=by simpa using hk
 rw [d8Z hk];simp
end
structure AW(w:j8):Prop where
 wi:WI w
 pw:PW w
 tl:TL w
theorem b09:AW L3:=⟨WI.open,c9e,c8z⟩
theorem O2{w:j8}(h:AW w){e:F9}(he:a1B e):AW (E0 w e):=⟨b1l h.wi he,c7L h.wi h.pw he,d18 h.wi h.tl he⟩
def aE(e:l7):l7:=⟨e.i7,e.a7,⟨[],[],0,0⟩⟩
def aV(v:n7):n7:=⟨v.a5,aE v.d7⟩
def aA(a:v6):v6:=⟨a.d9,a.a8.map aV⟩
def aN(n:j6):j6:=⟨n.Id,aA n.Acc,n.a6.map aE,n.Seq,n.a9,n.a5,n.b7,n.f0.map aV,aE n.c9,n.a8,n.i4,[],aE n.b8,n.d8.map aE⟩
def aM(m:l8):l8:=⟨m.a0,m.b7,m.To,m.a5,m.c8,aE m.d7,m.a8.map aV⟩
def aT(t:r9):r9:=⟨t.Node,t.a7,0,0⟩
def aQ(a:D4):D4:=⟨a.a7,[]⟩
def aW(w:j8):j8:=⟨w.c6.map aN,w.g8.map aM,w.g9.map aQ,w.Told.map aT⟩
def H7(e:l7):Prop:=s9 e=true
theorem c8C:H7 eN:=rfl
theorem d5i{e:l7}(h:H7 e):s9 (aE e)=true:=by
 obtain ⟨x,q,r⟩:=e;unfold H7 s9 at h;unfold s9 aE;cases x
 ·simp only [e0P,d82] at h ⊢;exact ⟨h.1,rfl,rfl⟩
 ·simp only [e0O,d82] at h ⊢;exact ⟨h.1,rfl⟩
theorem b44(l:List l7)(q:p9):E7 (l.map aE) q=E7 l q:=by
 unfold E7;rw [List.any_map];rfl
theorem c6f(k:List l7):∀q,O7 (k.map aE) (q.map aE)=((O7 k q).1.map aE,(O7 k q).2.map aE)
 | []=>rfl
 | e::q=>by
  simp only [d9s,O7];rw [show (aE e).a7=e.a7 from rfl,b44];cases E7 k e.a7
  ·rfl
  ·exact c6f k q
theorem c4U(n:j6):a01 (aN n)=(aN (a01 n).1,(a01 n).2.map aE):=by
 unfold a01;have h1:((aN n).f0.drop (aN n).a6.length).any (fun v=>decide (v.a5>0))=(n.f0.drop n.a6.length).any (fun v=>decide (v.a5>0)):=by
  show ((n.f0.map aV).drop (n.a6.map aE).length).any _=_
  rw [d9g,<-List.map_drop,List.any_map];rfl
 rw [h1];cases (n.f0.drop n.a6.length).any (fun v=>decide (v.a5>0))
 ·simp only [e0P];rw [show (aN n).i4=n.i4 from rfl,show E7 (aN n).a6 (aN n).b8.a7=E7 n.a6 n.b8.a7 from b44 _ _];cases n.i4 && !E7 n.a6 n.b8.a7
  ·simp only [e0P];have:=c6f n.a6 n.d8;rw [show O7 (aN n).a6 (aN n).d8=_ from this];rfl
  ·rfl
 ·rfl
theorem c8P(n:j6):R5 (aN n)=(aN (R5 n).1,(R5 n).2.map aE):=by
 unfold R5;have h1:(aN n).f0[(aN n).a6.length]?=(n.f0[n.a6.length]?).map aV:=by
  show (n.f0.map aV)[(n.a6.map aE).length]?=_
  rw [d9g,d9o]
 rw [h1];cases n.f0[n.a6.length]? with
 | none=>exact c4U n
 | some v=>
  simp only [d9t];rw [show (aV v).a5=v.a5 from rfl];cases decide (v.a5>0)
  ·exact c4U n
  ·rfl
theorem d8e(vs:List n7)(k:Nat):N2 (vs.map aV) k=(N2 vs k).map aV:=by
 unfold N2;rw [d9j,List.map_replicate,d9g];rfl
theorem b51(a:v6)(b:Int):C3 (aA a) b=(C3 a b).map aA:=by
 unfold C3;rw [show (aA a).d9=a.d9 from rfl];cases a8m b&&decide (a.d9<=b)<;>rfl
theorem c3J{a:v6}{b s:Int}{e:l7}(he:H7 e):D7 (aA a) b s (aE e)=(D7 a b s e).map aA:=by
 unfold D7;rw [d5i he,show s9 e=true from he,b51];cases m9 s 0 39
 ·rfl
 ·simp only [Bool.and_self,e0O];cases C3 a b with
  | none=>rfl
  | some x=>
   simp only [d9t,aA,d8e,e0M];rfl
theorem b9S:∀a b:List n7,B2 (a.map aV) (b.map aV)=(B2 a b).map aV
 | [],b=>by cases b<;>rfl
 | x::a,[]=>rfl
 | x::a,y::b=>by
  simp only [d9s,B2,b9S a b,show (aV x).a5=x.a5 from rfl,show (aV y).a5=y.a5 from rfl];cases decide (y.a5>x.a5)<;>rfl
theorem a3J(id:Int)(m:l8):C2 id (aM m)=(C2 id m).map aM:=by
 unfold C2;rw [e0l];rfl
theorem d5h(x:j6){e:l7}(he:H7 e):a1o (aN x) (aE e)=(aN (a1o x e).1,(a1o x e).2.map aM):=by
 unfold a1o;have h1:D7 (aN x).Acc (aN x).a5 ((aN x).a6.length:Int) (aE e)=(D7 x.Acc x.a5 (x.a6.length:Int) e).map aA:=by
  show D7 (aA x.Acc) x.a5 ((x.a6.map aE).length:Int) (aE e)=_
  rw [d9g,c3J he]
 rw [h1];cases D7 x.Acc x.a5 (x.a6.length:Int) e with
 | none=>rfl
 | some a=>
  have:=a3J x.Id ⟨3,0,0,x.a5,(x.a6.length:Int),e,[]⟩;simp only [d9t];rw [<-this];show (_,C2 x.Id ⟨3,0,0,x.a5,((x.a6.map aE).length:Int),aE e,[]⟩)=_
  rw [d9g];rfl
theorem a9M{n:j6}(h:ND H7 n):E2 (aN n)=(aN (E2 n).1,(E2 n).2.map aM):=by
 unfold E2;have h1:((aN n).a9 != 2||decide (40<=(aN n).a6.length))=(n.a9 != 2||decide (40<=n.a6.length)):=by
  show (n.a9 != 2||decide (40<=(n.a6.map aE).length))=_
  rw [d9g]
 rw [h1,c8P];cases n.a9 != 2||decide (40<=n.a6.length)
 ·simp only [e0P];obtain ⟨q,hq,hql,hqm,hqe⟩:=a6r n;cases hx:R5 n with
  | mk x o=>
  rw [hx] at hqe;cases o with
  | none=>rfl
  | some e=>exact d5h x (h.next c8C (hqe e rfl))
 ·rfl
theorem d2E(n:j6):(M9 (aN n)).1=aN (M9 n).1/\(M9 (aN n)).2.map aT=(M9 n).2.map aT:=by
 unfold M9;rw [show (aN n).i4=n.i4 from rfl];cases n.i4
 ·exact ⟨rfl,rfl⟩
 ·have h1:(aN n).a6.findIdx? (E8 (aN n).b8.a7)=n.a6.findIdx? (E8 n.b8.a7):=by
   show (n.a6.map aE).findIdx? (E8 n.b8.a7)=_
   rw [List.findIdx?_map];rfl
  simp only [e0O];rw [h1];cases n.a6.findIdx? (E8 n.b8.a7) with
  | none=>exact ⟨rfl,rfl⟩
  | some k=>exact ⟨rfl,rfl⟩
theorem c7E(n:j6)(e:l7):A9 (aN n) (aE e)=aN (A9 n e):=by
 unfold A9;rw [show (aN n).a9=n.a9 from rfl];cases n.a9==3
 ·simp only [e0P,aN,d9j,e0e]
 ·simp only [e0O,aN,d9j,e0e];rfl
def a3(x:j6×List l8×List r9):j6×List l8×List r9:=(aN x.1,x.2.1.map aM,x.2.2.map aT)
def t3(x:j6×List l8×List r9):j6×List l8×List r9:=(x.1,x.2.1,x.2.2.map aT)
theorem c3B{n:j6}(h:ND H7 n){e:l7}(he:H7 e):t3 (Q1 (aN n) (aE e))=a3 (Q1 n e):=by
 unfold Q1 t3 a3;rw [c7E];obtain ⟨a1,a2⟩:=d2E (A9 n e);simp only;rw [a1,a2,a9M (Act.know h he).nd]
theorem b67(n:j6)(b:Int):H4 (aN n) b=aN (H4 n b):=by
 unfold H4;rw [show (aN n).a9=n.a9 from rfl,show (aN n).a5=n.a5 from rfl];cases n.a9 != 0&&decide (b>n.a5)<;>rfl
theorem c8Z(n:j6)(m:l8):U9 (aN n) (aM m)=(aN (U9 n m).1,(U9 n m).2.map aM):=by
 unfold U9;rw [show C3 (aN n).Acc (aM m).a5=(C3 n.Acc m.a5).map aA from b51 _ _];cases C3 n.Acc m.a5 with
 | none=>rfl
 | some a=>
  simp only [d9t];rw [show ({aN n with Acc:=aA a}:j6)=aN {n with Acc:=a} from rfl,show (aM m).a5=m.a5 from rfl,b67];show (_,[G7 (aM m) ⟨2,0,0,m.a5,m.c8,zE,(a.a8.map aV).drop m.c8.toNat⟩])=_
  rw [<-List.map_drop];rfl
theorem c9d(n:j6){m:l8}(he:H7 m.d7):U2 (aN n) (aM m)=(aN (U2 n m).1,(U2 n m).2.map aM):=by
 unfold U2;rw [show D7 (aN n).Acc (aM m).a5 (aM m).c8 (aM m).d7=(D7 n.Acc m.a5 m.c8 m.d7).map aA from c3J he];cases D7 n.Acc m.a5 m.c8 m.d7 with
 | none=>rfl
 | some a=>
  simp only [d9t];rw [show ({aN n with Acc:=aA a}:j6)=aN {n with Acc:=a} from rfl,show (aM m).a5=m.a5 from rfl,b67];rfl
theorem d7q{n:j6}(h:ND H7 n){m:l8}(hm:ML H7 m):∀v∈B2 n.f0 (d81 m.c8.toNat v0++m.a8),v.a5>0->H7 v.d7:=fun v hv hb=>by
 rcases a6v hv with q|q
 ·exact h.bv v q hb
 ·rcases d80.1 q with q|q
  ·rw [(d9P.1 q).2] at hb;exact absurd hb (by decide)
  ·exact hm.vs v q hb
theorem d7i{n:j6}(h:ND H7 n){m:l8}(hm:ML H7 m):U3 (aN n) (aM m)=(aN (U3 n m).1,(U3 n m).2.map aM):=by
 unfold U3;have hb:B2 (aN n).f0 (d81 (aM m).c8.toNat v0++(aM m).a8)=(B2 n.f0 (d81 m.c8.toNat v0++m.a8)).map aV:=by
  rw [<-b9S,d9j,List.map_replicate];rfl
 rw [hb,show ((aN n).a9 != 1||(aM m).a5 != (aN n).a5)=(n.a9 != 1||m.a5 != n.a5) from rfl,show F7 ((aN n).b7.set (aM m).b7.toNat true)=F7 (n.b7.set m.b7.toNat true) from rfl];cases n.a9 != 1||m.a5 != n.a5
 ·simp only [e0P];cases F7 (n.b7.set m.b7.toNat true)
  ·rfl
  ·exact a9M (n:={n with b7:=[],f0:=B2 n.f0 (d81 m.c8.toNat v0++m.a8),a9:=2}) ⟨h.kn,h.av,d7q h hm,fun q=>absurd (show (2:Int)=3 from q) (by decide),h.wt,h.qu⟩
 ·rfl
theorem d3H{n:j6}(h:ND H7 n)(m:l8):t3 (a0l (aN n) (aM m))=a3 (a0l n m):=by
 unfold a0l;have h1:((aN n).a9 != 3||((aM m).a5 != (aN n).a5||(aM m).c8 != ((aN n).a6.length:Int)))=(n.a9 != 3||(m.a5 != n.a5||m.c8 != (n.a6.length:Int))):=by
  show (n.a9 != 3||(m.a5 != n.a5||m.c8 != ((n.a6.map aE).length:Int)))=_
  rw [d9g]
 rw [h1,show F7 ((aN n).a8.set (aM m).b7.toNat true)=F7 (n.a8.set m.b7.toNat true) from rfl];cases hc:n.a9 != 3||(m.a5 != n.a5||m.c8 != (n.a6.length:Int))
 ·simp only [e0P];simp only [d9O,bne_eq_false_iff_eq] at hc;have hcu:=h.cu hc.1;cases F7 (n.a8.set m.b7.toNat true)
  ·rfl
  ·simp only [e0O];have hl:=c3B (n:={n with a8:=n.a8.set m.b7.toNat true}) ⟨h.kn,h.av,h.bv,h.cu,h.wt,h.qu⟩ hcu;have e:({aN n with a8:=(aN n).a8.set (aM m).b7.toNat true}:j6)=aN {n with a8:=n.a8.set m.b7.toNat true}:=rfl;rw [e,show (aN n).c9=aE n.c9 from rfl];unfold t3 a3 at hl ⊢;injection hl with l1 l2;injection l2 with l2 l3;simp only;rw [l1,l2,l3,d9j,<-a3J];show (_,C2 n.Id ⟨5,0,0,0,((n.a6.map aE).length:Int),aE n.c9,[]⟩++_,_)=_
   rw [d9g];rfl
 ·rfl
theorem d4j{n:j6}(h:ND H7 n){m:l8}(he:H7 m.d7):t3 (Z9 (aN n) (aM m))=a3 (Z9 n m):=by
 unfold Z9;rw [show (aM m).c8=m.c8 from rfl,show ((aN n).a6.length:Int)=(n.a6.length:Int) by show ((n.a6.map aE).length:Int)=_;rw [d9g]];cases decide (m.c8<(n.a6.length:Int))
 ·cases decide (m.c8>(n.a6.length:Int))
  ·exact c3B h he
  ·rfl
 ·rfl
theorem d1r{n:j6}(h:ND H7 n){m:l8}(he:H7 m.d7):U5 (aN n) (aM m)=(aN (U5 n m).1,(U5 n m).2.map aM):=by
 unfold U5;have h1:((aN n).a9==0||(decide (4<=(aN n).d8.length)||E7 (aN n).a6 (aM m).d7.a7))=(n.a9==0||(decide (4<=n.d8.length)||E7 n.a6 m.d7.a7)):=by
  show (n.a9==0||(decide (4<=(n.d8.map aE).length)||E7 (n.a6.map aE) m.d7.a7))=_
  rw [d9g,b44]
 rw [h1];cases n.a9==0||(decide (4<=n.d8.length)||E7 n.a6 m.d7.a7)
 ·simp only [e0P];have:=a9M (n:={n with d8:=n.d8++[m.d7]}) ⟨h.kn,h.av,h.bv,h.cu,h.wt,fun e q=>(d80.1 q).elim (h.qu e) fun q=>by rw [d84.1 q];exact he⟩;rw [<-this];show E2 {aN n with d8:=n.d8.map aE++[aE m.d7]}=_
  congr 1
  simp only [aN,d9j,e0e]
 ·rfl
theorem c6E(n:j6)(m:l8):a0X (aN n) (aM m)=(a0X n m).map aM:=by
 unfold a0X;rw [show (aN n).a6.length=n.a6.length from d9g ..,show (aM m).c8=m.c8 from rfl,List.map_flatten,e0l];congr 2
 funext j
 show V9 (aN n) (aM m) _=(V9 n m _).map aM
 unfold V9;rw [show (aN n).a6[m.c8.toNat+j]?=(n.a6[m.c8.toNat+j]?).map aE from d9o ..];cases n.a6[m.c8.toNat+j]?<;>rfl
theorem d4m{n:j6}(h:ND H7 n){m:l8}(hm:ML H7 m):t3 (L0 (aN n) (aM m))=a3 (L0 n m):=by
 unfold L0;rw [show (aM m).a0=m.a0 from rfl];cases k1:m.a0==1;case true=>simp only [e0O];rw [c8Z];rfl
 cases k2:m.a0==2;case true=>simp only [e0O,e0P];rw [d7i h hm];rfl
 cases k3:m.a0==3;case true=>simp only [e0O,e0P];rw [c9d n (hm.en (.inl (by simpa using k3)))];rfl
 cases k4:m.a0==4;case true=>exact d3H h m
 cases k5:m.a0==5;case true=>exact d4j h (hm.en (.inr (.inl (by simpa using k5))))
 cases k6:m.a0==6;case true=>
  simp only [e0O,e0P];unfold t3 a3;simp only;rw [show C3 (aN n).Acc (aM m).a5=(C3 n.Acc m.a5).map aA from b51 _ _,<-b67];cases C3 n.Acc m.a5<;>first|done|rfl
 cases k7:m.a0==7;case true=>simp only [e0O,e0P];rw [d1r h (hm.en (.inr (.inr (by simpa using k7))))];rfl
 cases m.a0==8
 ·rfl
 ·simp only [e0O,e0P];unfold t3 a3;simp only;rw [c6E];try rfl
def a6L(n:j6):j6×List l8:=
 bif n.i4||n.Seq==1000 then (n,[]) else
 bif n.a9==2 then E2 {n with Seq:=n.Seq+1,i4:=true,i6:=[],b8:=⟨false,⟨n.Id,n.Seq+1⟩,⟨[],[],0,0⟩⟩}
 else ({n with Seq:=n.Seq+1,i4:=true,i6:=[],b8:=⟨false,⟨n.Id,n.Seq+1⟩,⟨[],[],0,0⟩⟩},
  bif n.a9==0 then C2 n.Id ⟨7,0,0,0,0,⟨false,⟨n.Id,n.Seq+1⟩,⟨[],[],0,0⟩⟩,[]⟩ else [])
theorem d73{n:j6}(h:ND H7 n){p:List m5}(hc:((A6 (a0w n) p).Code==3)=false)(hw:H8 n p=true->H7 (F3 n p).b8):a6L (aN n)=(aN (D5 n p).1,(D5 n p).2.map aM):=by
 rw [Y2];unfold a6L;have hca:H8 n p = !(n.i4||n.Seq==1000):=by
  unfold H8;rw [hc,Bool.or_false]
 rw [show (aN n).i4=n.i4 from rfl,show (aN n).Seq=n.Seq from rfl,show (aN n).a9=n.a9 from rfl];rw [hca] at hw ⊢;revert hw;cases n.i4||n.Seq==1000<;>intro hw
 ·simp only [e0P,d9u,e0O];cases n.a9==2
  ·simp only [e0P];cases n.a9==0
   ·rfl
   ·simp only [e0O];rw [<-a3J];rfl
  ·exact a9M (n:=F3 n p) ⟨h.kn,h.av,h.bv,h.cu,fun _=>hw rfl,h.qu⟩
 ·rfl
theorem c7u(n:j6):M5 (aN n)=(aN (M5 n).1,(M5 n).2.map aM):=by
 unfold M5;rw [show H3 (aN n).Acc.d9 (aN n).Id=H3 n.Acc.d9 n.Id from rfl];cases decide (H3 n.Acc.d9 n.Id<0)
 ·simp only [e0P];rw [<-a3J,show ((aN n).a6.length:Int)=(n.a6.length:Int) by show ((n.a6.map aE).length:Int)=_;rw [d9g]];rfl
 ·rfl
theorem d7P{n:j6}(h:ND H7 n):K7 (aN n)=(aN (K7 n).1,(K7 n).2.map aM):=by
 unfold K7;rw [show ((aN n).a6.length:Int)=(n.a6.length:Int) by show ((n.a6.map aE).length:Int)=_;rw [d9g]];rw [show (aN n).a9=n.a9 from rfl,show (aN n).i4=n.i4 from rfl,a9M h];have e8:=a3J n.Id ⟨8,0,0,0,(n.a6.length:Int),zE,[]⟩;cases n.a9==1
 ·cases n.a9==2
  ·cases n.a9==3
   ·cases n.i4
    ·simp only [e0P];rw [<-e8];rfl
    ·simp only [e0P,e0O];rw [d9j,<-e8,<-a3J];rfl
   ·simp only [e0P,e0O];rw [d9j,<-e8,<-a3J];rfl
  ·simp only [e0P,e0O];rw [d9j,<-e8];rfl
 ·simp only [e0O];rw [d9j,<-e8,<-a3J];rfl
theorem NI.nd{n:j6}(h:NI n):ND H7 n:=by
 refine ⟨h.ks,fun v hv hb=>(h.vs v hv).1.pos hb,fun v hv hb=>(h.ld.best.2 v hv).pos hb,fun hp => ?_,fun hb => ?_,fun e he=>(h.qs e he).1⟩
 ·rcases h.ld with q|q|q|q
  ·omega
  ·omega
  ·omega
  ·exact q.2.2.2.1
 ·rcases h.wt with q|q
  ·exact q.2.2.1
  ·rw [hb] at q;cases q.1
theorem MI.mlE{m:l8}(h:MI m):ML H7 m:=by
 refine ⟨fun hk => ?_,fun v hv hb => ?_⟩
 ·rcases h.kd with q|q|q|q|q|q|q
  ·omega
  ·omega
  ·exact q.2.2.2.1
  ·exact q.2.2.2.1
  ·omega
  ·exact q.2.2.2.1
  ·omega
 ·rcases h.kd with q|q|q|q|q|q|q
  ·rw [q.2.2.2] at hv;cases hv
  ·exact (q.2.2.2.1.2 v hv).pos hb
  ·rw [q.2.2.2.2] at hv;cases hv
  ·rw [q.2.2.2.2] at hv;cases hv
  ·rw [q.2.2.2.2] at hv;cases hv
  ·rw [q.2.2.2.2.2] at hv;cases hv
  ·rw [q.2.2.2] at hv;cases hv
theorem a9L(w:j8)(i:Int):u7 (aW w) i=aN (u7 w i):=by
 unfold u7;show (w.c6.map aN).getD i.toNat (A2 0)=_
 rw [d9b,d9b,d9o];cases w.c6[i.toNat]?<;>rfl
theorem a8n(w:j8)(l:List l8):aW (M7 w l)=M7 (aW w) (l.map aM):=by
 unfold M7 aW;simp only [d9j,List.map_take,d9g]
theorem d6L(w:j8)(l:List r9):aW (a1R w l)=a1R (aW w) (l.map aT):=by
 unfold a1R aW;simp only [d9j,List.map_take,d9g]
theorem a76(w:j8)(i:Int)(n:j6):aW (D9 w i n)=D9 (aW w) i (aN n):=by
 unfold D9 aW;simp only [e0M]
theorem b8e(w:j8)(i:Int):aW (X9 w i)=X9 (aW w) i:=by
 unfold X9 aW;simp only [d9j,List.map_take,List.map_drop]
def b7a(w:j8)(i:Int):j8:=
 bif decide (60<=w.g9.length) then w else
 M7 (D9 (bif decide ((a6L (u7 w i)).1.Seq>(u7 w i).Seq) then {w with g9:=w.g9++[⟨(a6L (u7 w i)).1.b8.a7,[]⟩]} else w) i (a6L (u7 w i)).1) (a6L (u7 w i)).2
def b9P(w:j8)(i:Int)(m:l8):j8:=
 a1R (M7 (D9 w m.To (t3 (L0 (u7 w m.To) m)).1) (t3 (L0 (u7 w m.To) m)).2.1) (t3 (L0 (u7 w m.To) m)).2.2
def b5G(w:j8)(k a:Int):j8:=bif decide (0<=a) then (match w.g8[a.toNat]? with
 | some m=>bif k==4 then M7 w [m] else bif k==3 then X9 w a else b9P (X9 w a) a m
 | none=>w) else w
def doA(w:j8)(k a:Int):j8:=
 bif k==2||(k==3||k==4) then b5G w k a else
 bif !m9 a 0 2 then w else
 bif k==1 then b7a w a else
 bif k==5 then M7 (D9 w a (M5 (u7 w a)).1) (M5 (u7 w a)).2 else
 bif k==6 then M7 (D9 w a (K7 (u7 w a)).1) (K7 (u7 w a)).2 else
 bif k==7 then D9 w a (Y5 (u7 w a)) else w
theorem b25{w:j8}(h:WI w){i:Int}(hi:0<=i/\i<=2):NI (u7 w i):=by
 obtain ⟨k,rfl⟩:∃k:Nat,i=(k:Int):=⟨i.toNat,by omega⟩
 obtain ⟨n,_,h2,h3,h4,_⟩:=a1j h (i:=k) (by omega);rw [h2];exact h4
theorem c6I{w:j8}(h:WI w)(e:F9):aW (Z0 w e)=b5G (aW w) e.a0 e.A:=by
 unfold Z0 b5G;cases decide (0<=e.A)
 ·rfl
 simp only [e0O];rw [show (aW w).g8[e.A.toNat]?=(w.g8[e.A.toNat]?).map aM from d9o ..];cases hm:w.g8[e.A.toNat]? with
 | none=>rfl
 | some m=>
  have hmi:=h.ms m (d9a hm);simp only [d9t];cases e.a0==4
  ·cases e.a0==3
   ·simp only [e0P];unfold b9P;have ht:=d4m (b25 h hmi.to).nd hmi.mlE;rw [d6L,a8n,a76,b8e];rw [show u7 (X9 (aW w) e.A) (aM m).To=aN (u7 w m.To) from a9L w m.To,ht];rfl
   ·exact b8e _ _
  ·exact a8n _ _
theorem d2x{w:j8}(h:WI w){i:Int}(hi:0<=i/\i<=2){p:List m5}(hf:s6 p)(hp:z9 p=true):aW (a0T w i p)=b7a (aW w) i:=by
 unfold a0T b7a;rw [show (aW w).g9.length=w.g9.length from d9g ..];cases decide (60<=w.g9.length)
 ·have hni:=b25 h hi;have hc:((A6 (a0w (u7 w i)) p).Code==3)=false:=by rw [c4M (b2T hni),hp];rfl
  have ha:=d73 hni.nd hc fun q=>(b28 hni hf q).1
  simp only [e0P];rw [a8n,a76,a9L,ha];simp only;rw [show (aN (D5 (u7 w i) p).1).Seq=(D5 (u7 w i) p).1.Seq from rfl,show (aN (u7 w i)).Seq=(u7 w i).Seq from rfl];cases decide ((D5 (u7 w i) p).1.Seq>(u7 w i).Seq)
  ·rfl
  ·simp only [e0O];congr 2
   unfold aW;simp only [d9j,e0e];rfl
 ·rfl
theorem a63{w:j8}(h:WI w)(e:F9)(hp:e.a0=1->s6 e.i6/\z9 e.i6=true):aW (E0 w e)=doA (aW w) e.a0 e.A:=by
 unfold E0 doA;cases e.a0==2||(e.a0==3||e.a0==4)
 ·simp only [e0P];cases hi:m9 e.A 0 2
  ·rfl
  rw [C7] at hi;have hnd:=(b25 h hi).nd;simp only [d9e,e0P,a9L];cases h1:e.a0==1
  ·cases e.a0==5
   ·cases e.a0==6
    ·cases e.a0==7
     ·rfl
     ·exact a76 _ _ _
    ·simp only [e0O,e0P];rw [a8n,a76,d7P hnd]
   ·simp only [e0O,e0P];rw [a8n,a76,c7u]
  ·obtain ⟨a,b⟩:=hp (by simpa using h1);exact d2x h hi a b
 ·exact c6I h e
def weW:Nat->j8->j8
 | 0,w=>w
 | n+1,w=>bif decide (0<w.g8.length) then weW n (E0 w ⟨2,0,[]⟩) else w
def weA:Nat->j8->j8
 | 0,w=>w
 | n+1,w=>bif decide (0<w.g8.length) then weA n (doA w 2 0) else w
theorem b8u:∀(n:Nat) {w:j8},WI w->aW (weW n w)=weA n (aW w)
 | 0,_,_=>rfl
 | n+1,w,h=>by
  unfold weW weA;rw [show (aW w).g8.length=w.g8.length from d9g ..];cases decide (0<w.g8.length)
  ·rfl
  ·simp only [e0O];rw [b8u n (b1l h ⟨by decide,fun _ _=>trivial⟩),a63 h _ (fun q=>absurd (show (2:Int)=1 from q) (by decide))]
theorem d8H{r:t5}{m:Nat}(h:Rd r m)(hm:m<=1000000):∃b r',b2H r=some (b,r')/\Rd r' (m+20):=by
 unfold b2H;rw [d0p,d8Y];obtain ⟨x,hx,hq⟩:=b07 (body:=fun s:t5×(List m7)×Int=>a7Q s.1 s.2.1 s.2.2)
  (fun j s=>j<=4/\s.2.2=((4-j:Nat):Int)/\s.2.1.length=4/\Rd s.1 (m+2*(4-j)))
  (fun x => ∃b:t5×List m7,x=.brk b/\b.2.length=4/\Rd b.1 (m+8))
  (by
   rintro j ⟨r,out,i⟩ ⟨q0,q1,q2,q3⟩
   simp only at q1 q2 q3 ⊢;subst q1;unfold a7Q;rw [q2];cases j with
   | zero=>exact ⟨_,rfl,_,rfl,q2,q3.mono (by omega)⟩
   | succ j=>
    obtain ⟨v,r1,a1,a2,_⟩:=P9 q3 (by omega) 5;obtain ⟨n,r2,b1,b2,b3⟩:=a3f a2 (by omega) [0,1,2,5,(-3),7,100,1000000,(-1000000)] (by decide) (by decide);rw [show decide (((4-(j+1):Nat):Int)<((4:Nat):Int))=true by simp;omega,e0O,a1,d8Y,b1,d8Y,s8 (show 4-(j+1)<out.length by omega),d8Y];refine ⟨_,rfl,j,by omega,by omega,?_,by simp only [d9A];exact q2,b2.mono (by omega)⟩;simp only;rw [B4 (by omega) (by omega)];omega) (k:=4) (s:=(r,a5w,0)) ⟨by omega,by simp,by rfl,h.mono (by omega)⟩
 obtain ⟨⟨r1,out⟩,rfl,hl,hr⟩:=hq;simp only at hl hr;rw [show p6 (fun s:t5×(List m7)×Int=>a7Q s.1 s.2.1 s.2.2) (r,a5w,0)=_ from hx,d8Y];simp only [j9.go];unfold b6Q;obtain ⟨v,r2,a1,a2,_⟩:=P9 hr (by omega) 30;obtain ⟨c,r3,c1,c2,c3,c4⟩:=P9 a2 (by omega) 4;obtain ⟨d,r4,d1,d2,_⟩:=a3f c2 (by omega) [(-1),1000001] (by decide) (by decide);obtain ⟨e,r5,e1,e2,_⟩:=a3f c2 (by omega) [1000001,(-1000001)] (by decide) (by decide);obtain ⟨k,rfl⟩:∃k:Nat,c=(k:Int):=⟨c.toNat,by omega⟩
 have hk:k<out.length:=by omega
 simp only [a1,c1,d1,e1,d8Y,s8 hk];cases v==0
 ·cases v==1
  ·cases v==2
   ·exact ⟨_,_,rfl,a2.mono (by omega)⟩
   ·exact ⟨_,_,rfl,e2.mono (by omega)⟩
  ·exact ⟨_,_,rfl,d2.mono (by omega)⟩
 ·rw [x6 (by rw [hl];decide)];exact ⟨_,_,rfl,a2.mono (by omega)⟩
theorem d5l{r:t5}{m:Nat}(h:Rd r m)(hm:m<=1000000):∃p r',b0D r=some (p,r')/\Rd r' (m+300)/\p.length<=11:=by
 obtain ⟨p,r1,a1,a2,a3⟩:=c1B h (by omega);unfold b0D;rw [a1,d8Y];simp only;cases hz:(p.length:Int)==0;case true=>exact ⟨_,_,rfl,a2.mono (by omega),by omega⟩
 have hp:0<p.length:=by
  have:¬((p.length:Int)=0):=by simpa using hz
  omega
 obtain ⟨i,r2,b1,b2,b3,b4⟩:=P9 a2 (by omega) (p.length:Int);obtain ⟨k,r3,c1,c2,_⟩:=P9 b2 (by omega) 40;obtain ⟨j,rfl⟩:∃j:Nat,i=(j:Int):=⟨i.toNat,by omega⟩
 have hj:j<p.length:=by omega
 obtain ⟨n1,r4,d1,d2,_⟩:=a3f c2 (by omega) [0,8] (by decide) (by decide);obtain ⟨n2,r5,e1,e2,_⟩:=a3f c2 (by omega) [(-1),4] (by decide) (by decide);obtain ⟨n3,r6,f1,f2,_⟩:=a3f c2 (by omega) [(-1),11,2000000] (by decide) (by decide);simp only [e0P,b1,c1,d1,e1,f1,d8Y,s8 hj];cases k==0
 ·cases k==1
  ·cases k==2
   ·cases k==3
    ·exact ⟨_,_,rfl,c2.mono (by omega),by simp only;omega⟩
    ·obtain ⟨x,hx,hq⟩:=b07 (body:=fun s:List m5=>a9I ((j:Int),r2) s) (fun q s=>s.length+q=11/\j<s.length)
      (fun x => ∃b:List m5,x=.brk b/\b.length<=11)
      (by
       rintro q s ⟨q1,q2⟩
       unfold a9I;cases q with
       | zero=>
        rw [show decide ((s.length:Int)<11)=false by simp;omega];exact ⟨_,rfl,_,rfl,by omega⟩
       | succ q=>
        rw [show decide ((s.length:Int)<11)=true by simp;omega,e0O];simp only [s8 q2,d8Y];rw [x6 (by omega)];exact ⟨_,rfl,q,by omega,by simp;omega,by simp;omega⟩) (k:=11-p.length) (s:=p) ⟨by omega,hj⟩
     obtain ⟨b,rfl,hb⟩:=hq;simp only [e0O,e0P];rw [show p6 (fun s:List m5=>a9I ((j:Int),r2) s) p=_ from hx];exact ⟨_,_,rfl,c2.mono (by omega),hb⟩
   ·exact ⟨_,_,rfl,f2.mono (by omega),by simp only [d9A];omega⟩
  ·exact ⟨_,_,rfl,e2.mono (by omega),by simp only [d9A];omega⟩
 ·exact ⟨_,_,rfl,d2.mono (by omega),by simp only [d9A];omega⟩
theorem M8(k a:Int):a1B ⟨k,a,[]⟩:=⟨by show ([]:List m5).length*32<=_;simp,fun _ _=>trivial⟩
def X6(w:j8):j8:=weW 800 w
def a05(w:j8)(i:Int):Bool:=((u7 w i).a9==2||(u7 w i).a9==3)&&w.c6.all fun x=>decide (x.Acc.d9<=(u7 w i).a5)
def a0S(i:Int):Nat->j8->j8
 | 0,w=>w
 | n+1,w=>bif a05 w i then w else a0S i n (X6 (E0 w ⟨5,i,[]⟩))
def a7j(w:j8):j8:=X6 (E0 (X6 (E0 (X6 (E0 w ⟨6,0,[]⟩)) ⟨6,1,[]⟩)) ⟨6,2,[]⟩)
def a1P(w:j8)(i:Int):j8:=a7j (a0S i 4 (X6 w))
def a6O(w:j8):j8:=weA 800 w
def b1C(i:Int):Nat->j8->j8
 | 0,w=>w
 | n+1,w=>bif a05 w i then w else b1C i n (a6O (doA w 5 i))
def b4T(w:j8):j8:=a6O (doA (a6O (doA (a6O (doA w 6 0)) 6 1)) 6 2)
def a8O(w:j8)(i:Int):j8:=b4T (b1C i 4 (a6O w))
theorem d5C(w:j8)(i:Int):a05 (aW w) i=a05 w i:=by
 unfold a05;rw [a9L,show (aW w).c6=w.c6.map aN from rfl,List.all_map];rfl
theorem c3C:∀(n:Nat) {w:j8},AW w->AW (weW n w)
 | 0,_,h=>h
 | n+1,w,h=>by
  unfold weW;cases decide (0<w.g8.length)
  ·exact h
  ·exact c3C n (O2 h (M8 2 0))
theorem P4{w:j8}(h:AW w):AW (X6 w):=c3C 800 h
theorem a7H(i:Int):∀(n:Nat) {w:j8},AW w->AW (a0S i n w)
 | 0,_,h=>h
 | n+1,w,h=>by
  unfold a0S;cases a05 w i
  ·exact a7H i n (P4 (O2 h (M8 5 i)))
  ·exact h
theorem d4g{w:j8}(h:AW w):AW (a7j w):=P4 (O2 (P4 (O2 (P4 (O2 h (M8 6 0))) (M8 6 1))) (M8 6 2))
theorem b4p{w:j8}(h:AW w)(i:Int):AW (a1P w i):=d4g (a7H i 4 (P4 h))
theorem a70{w:j8}(h:WI w):aW (X6 w)=a6O (aW w):=b8u 800 h
theorem b8W(i:Int):∀(n:Nat) {w:j8},AW w->aW (a0S i n w)=b1C i n (aW w)
 | 0,_,_=>rfl
 | n+1,w,h=>by
  unfold a0S b1C;rw [d5C];cases a05 w i
  ·simp only [e0P];have h1:=O2 h (M8 5 i);rw [b8W i n (P4 h1),a70 h1.wi,a63 h.wi _ (fun q=>absurd (show (5:Int)=1 from q) (by decide))]
  ·rfl
theorem c9T{w:j8}(h:AW w):aW (a7j w)=b4T (aW w):=by
 have h1:=O2 h (M8 6 0);have h2:=P4 h1;have h3:=O2 h2 (M8 6 1);have h4:=P4 h3;have h5:=O2 h4 (M8 6 2);unfold a7j b4T;have n6:∀i:Int,(⟨6,i,[]⟩:F9).a0=1->s6 (⟨6,i,[]⟩:F9).i6/\z9 (⟨6,i,[]⟩:F9).i6=true:=fun i q=>absurd (show (6:Int)=1 from q) (by decide)
 rw [a70 h5.wi,a63 h4.wi _ (n6 2),a70 h3.wi,a63 h2.wi _ (n6 1),a70 h1.wi,a63 h.wi _ (n6 0)]
theorem c2R{w:j8}(h:AW w)(i:Int):aW (a1P w i)=a8O (aW w) i:=by
 unfold a1P a8O;rw [c9T (a7H i 4 (P4 h)),b8W i 4 (P4 h),a70 h.wi]
structure LW(L:l7->Prop)(w:j8):Prop where
 nd:∀n∈w.c6,ND L n
 ml:∀m∈w.g8,ML L m
section
variable {L:l7->Prop} {w:j8}
theorem b9n(i:Int):ND L (A2 i):=⟨by simp [A2],by simp [A2],by simp [A2],fun q=>absurd (show (0:Int)=3 from q) (by decide),fun q=>(by cases q),by simp [A2]⟩
theorem LW.node(h:LW L w)(i:Int):ND L (u7 w i):=by
 unfold u7;rw [d9b];cases hn:w.c6[i.toNat]? with
 | none=>exact b9n 0
 | some n=>exact h.nd n (d9a hn)
theorem LW.put(h:LW L w)(i:Int){n:j6}(hn:ND L n):LW L (D9 w i n):=⟨fun x hx=>(d9r hx).elim (h.nd x) fun q=>q▸hn,h.ml⟩
theorem LW.send(h:LW L w){l:List l8}(hl:∀m∈l,ML L m):LW L (M7 w l):=⟨h.nd,fun m hm=>(d80.1 hm).elim (h.ml m) fun q=>hl m (d9C q)⟩
theorem LW.off(h:LW L w)(i:Int):LW L (X9 w i):=⟨h.nd,fun m hm=>h.ml m ((d80.1 hm).elim d9C d9N)⟩
theorem LW.mono{L':l7->Prop}(h:LW L w)(hi:∀e,L e->L' e):LW L' w:=⟨fun n q=>(h.nd n q).mono hi,fun m q=>(h.ml m q).mono hi⟩
theorem c9z:LW L L3:=⟨fun n hn=>by
 simp only [L3,d88,List.not_mem_nil,or_false] at hn;rcases hn with rfl|rfl|rfl<;>exact b9n _,by simp [L3]⟩
theorem a7M(hw:WI w)(h:LW L w)(h0:L eN){e:F9}(hk:(e.a0==1)=false):LW L (E0 w e):=by
 unfold E0;cases e.a0==2||(e.a0==3||e.a0==4)
 ·simp only [e0P];cases m9 e.A 0 2
  ·exact h
  simp only [d9e,e0P,hk];cases e.a0==5
  ·cases e.a0==6
   ·cases e.a0==7
    ·exact h
    ·exact h.put _ (Act.fall (h.node e.A)).nd
   ·have a:=Act.retry (h.node e.A) h0;exact (h.put _ a.nd).send a.ml
  ·have a:=Act.rise (h.node e.A);exact (h.put _ a.nd).send a.ml
 ·simp only [e0O];unfold Z0;cases decide (0<=e.A)
  ·exact h
  simp only [e0O];cases hm:w.g8[e.A.toNat]? with
  | none=>exact h
  | some m=>
   simp only;have hmm:=d9a hm;cases e.a0==4
   ·cases e.a0==3
    ·simp only [e0P];have a:=Act.take (h.node m.To) h0 (h.ml m hmm) (hw.ms m hmm);have:=((h.off e.A).put m.To a.nd).send a.ml;exact ⟨this.nd,this.ml⟩
    ·exact h.off _
   ·exact h.send fun x hx=>by rw [d84.1 hx];exact h.ml m hmm
theorem c8D(h:LW L w)(h0:L eN){i:Int}{p:List m5}{L':l7->Prop}(hi:∀e,L e->L' e)(hq:L' (F3 (u7 w i) p).b8):LW L' (a0T w i p):=by
 have h':=h.mono hi;unfold a0T;cases decide (60<=w.g9.length)
 ·simp only [e0P];have ha:ND L' (D5 (u7 w i) p).1/\∀m∈(D5 (u7 w i) p).2,ML L' m:=by
   cases hc:H8 (u7 w i) p
   ·rw [Y2,hc];exact ⟨h'.node i,by simp⟩
   ·have a:=d4I (h'.node i) (hi _ h0) hc hq;exact ⟨a.nd,a.ml⟩
  cases decide ((D5 (u7 w i) p).1.Seq>(u7 w i).Seq)
  ·exact (h'.put _ ha.1).send ha.2
  ·exact (LW.put (w:={w with g9:=w.g9++[_]}) ⟨h'.nd,h'.ml⟩ _ ha.1).send ha.2
 ·exact h'
theorem c0S(h0:L eN):∀(n:Nat) {w:j8},AW w->LW L w->LW L (weW n w)
 | 0,_,_,h=>h
 | n+1,w,hw,h=>by
  unfold weW;cases decide (0<w.g8.length)
  ·exact h
  ·exact c0S h0 n (O2 hw (M8 2 0)) (a7M hw.wi h h0 rfl)
theorem a8Z(h0:L eN)(hw:AW w)(h:LW L w):LW L (X6 w):=c0S h0 800 hw h
theorem c4H(h0:L eN)(i:Int):∀(n:Nat) {w:j8},AW w->LW L w->LW L (a0S i n w)
 | 0,_,_,h=>h
 | n+1,w,hw,h=>by
  unfold a0S;cases a05 w i
  ·have h1:=O2 hw (M8 5 i);exact c4H h0 i n (P4 h1) (a8Z h0 h1 (a7M hw.wi h h0 rfl))
  ·exact h
theorem d0I(h0:L eN)(hw:AW w)(h:LW L w):LW L (a7j w):=by
 have h1:=O2 hw (M8 6 0);have h2:=P4 h1;have h3:=O2 h2 (M8 6 1);have h4:=P4 h3;have h5:=O2 h4 (M8 6 2);exact a8Z h0 h5 (a7M h4.wi (a8Z h0 h3 (a7M h2.wi (a8Z h0 h1 (a7M hw.wi h h0 rfl)) h0 rfl)) h0 rfl)
theorem c39(h0:L eN)(hw:AW w)(h:LW L w)(i:Int):LW L (a1P w i):=d0I h0 (a7H i 4 (P4 hw)) (c4H h0 i 4 (P4 hw) (a8Z h0 hw h))
end
def a6c(e:l7):Bool×Int×Int:=(e.i7,e.a7.b9,e.a7.Seq)
def F6(s:Int)(k:Nat):Int:=(s+(k:Int)) % 3
def J9(s:Int)(k:Nat):p9:=⟨F6 s k,((k / 3:Nat):Int)+1⟩
def a0U(s:Int)(k:Nat):List (Bool×Int×Int):=(d87 k).map fun j=>(false,(J9 s j).b9,(J9 s j).Seq)
def D1(s:Int)(p:Nat->List m5):Nat->List l7
 | 0=>[]
 | k+1=>D1 s p k++[⟨false,J9 s k,A6 (u5 (D1 s p k)).1.i0 (p k)⟩]
def z5(L s:Int)(p:Nat->List m5):Nat->j8
 | 0=>a1P L3 L
 | k+1=>a1P (E0 (z5 L s p k) ⟨1,F6 s k,p k⟩) L
def Z8(L s:Int):Nat->j8
 | 0=>a8O L3 L
 | k+1=>a8O (doA (Z8 L s k) 1 (F6 s k)) L
def a26(w:j8)(s:Int)(k:Nat):Bool:=
 (w.g8.length==0)&&((w.c6.all fun n => !n.i4&&(n.a6.map a6c==a0U s k))&&((w.Told.map (fun t=>(false,t.a7.b9,t.a7.Seq))==a0U s k)&&((u7 w (F6 s k)).Seq==((k / 3:Nat):Int))))
def a1Q(L s:Int):Bool:=(d87 6).all fun k=>a26 (Z8 L s k) s k
set_option maxRecDepth 100000 in
theorem d2c:a1Q 0 0=true:=by decide +kernel
set_option maxRecDepth 100000 in
theorem c8y:a1Q 0 1=true:=by decide +kernel
set_option maxRecDepth 100000 in
theorem d06:a1Q 0 2=true:=by decide +kernel
set_option maxRecDepth 100000 in
theorem c8x:a1Q 1 0=true:=by decide +kernel
set_option maxRecDepth 100000 in
theorem d3W:a1Q 1 1=true:=by decide +kernel
set_option maxRecDepth 100000 in
theorem d27:a1Q 1 2=true:=by decide +kernel
set_option maxRecDepth 100000 in
theorem c93:a1Q 2 0=true:=by decide +kernel
set_option maxRecDepth 100000 in
theorem d61:a1Q 2 1=true:=by decide +kernel
set_option maxRecDepth 100000 in
theorem d4N:a1Q 2 2=true:=by decide +kernel
theorem a6N{L s:Int}(hL:L=0\/L=1\/L=2)(hs:s=0\/s=1\/s=2){k:Nat}(hk:k<=5):a26 (Z8 L s k) s k=true:=by
 have:a1Q L s=true:=by
  rcases hL with rfl|rfl|rfl<;>rcases hs with rfl|rfl|rfl
  ·exact d2c
  ·exact c8y
  ·exact d06
  ·exact c8x
  ·exact d3W
  ·exact d27
  ·exact c93
  ·exact d61
  ·exact d4N
 exact d86.1 this k (by simp;omega)
theorem d8K{α β:Type}{key:α->β}{l m:List α}(hk:l.map key=m.map key)(hm:∀e∈l,e∈m)(hn:(m.map key).Nodup):l=m:=by
 have hl:l.length=m.length:=by simpa using congrArg List.length hk
 apply List.ext_getElem hl;intro i h1 h2;obtain ⟨j,hj,he⟩:=d9W (hm _ (d85 h1));have e1:key l[i]=key m[i]:=by
  have:=congrArg (fun x=>x[i]?) hk;simp only [d9o,d8Z h1,d8Z h2,d9t] at this;exact d9K this
 rw [<-he] at e1 ⊢;have hij:j=i:=by
  rcases Nat.lt_trichotomy j i with q|q|q
  ·exact absurd (by rw [List.getElem_map,List.getElem_map];exact e1) (d9G.1 hn j i (by rw [d9g];omega) (by rw [d9g];omega) q)
  ·exact q
  ·exact absurd (by rw [List.getElem_map,List.getElem_map];exact e1.symm) (d9G.1 hn i j (by rw [d9g];omega) (by rw [d9g];omega) q)
 subst hij;rfl
theorem W9(s:Int)(p:Nat->List m5):∀k,(D1 s p k).length=k
 | 0=>rfl
 | k+1=>by
  show (D1 s p k++[_]).length=_
  rw [d9d,W9 s p k];rfl
theorem b2L(s:Int)(p:Nat->List m5):∀k,(D1 s p k).map a6c=a0U s k
 | 0=>rfl
 | k+1=>by
  show (D1 s p k++[_]).map a6c=_
  rw [d9j,b2L s p k];unfold a0U;rw [List.range_succ,d9j];rfl
theorem c7k(s:Int)(k:Nat):(a0U s k).Nodup:=by
 unfold a0U;refine List.pairwise_map.2 ((List.nodup_range (n:=k)).imp_of_mem ?_);intro a b ha hb hab q;apply hab;simp only [J9,F6,Prod.mk.injEq,true_and] at q;omega
theorem a5d(s:Int)(p:Nat->List m5){k:Nat}:∀{n},k<n->(D1 s p n)[k]?=some ⟨false,J9 s k,A6 (u5 (D1 s p k)).1.i0 (p k)⟩
 | 0,h=>by omega
 | n+1,h=>by
  show (D1 s p n++[_])[k]?=_
  by_cases q:k<n
  ·rw [d9i (by rw [W9];exact q)];exact a5d s p q
  ·have:k=n:=by omega
   subst this;rw [d9f (by rw [W9];omega),W9,Nat.sub_self];rfl
theorem a6n(s:Int)(p:Nat->List m5){k:Nat}:∀{n},k<=n->(D1 s p n).take k=D1 s p k
 | 0,h=>by
  have:k=0:=by omega
  subst this;rfl
 | n+1,h=>by
  by_cases q:k=n+1
  ·subst q;exact d9w (by rw [W9];omega)
  ·show (D1 s p n++[_]).take k=_
   rw [d9y (by rw [W9];omega)];exact a6n s p (by omega)
structure Row(L s:Int)(p:Nat->List m5)(k:Nat):Prop where
 aw:AW (z5 L s p k)
 ab:aW (z5 L s p k)=Z8 L s k
 lw:LW (fun e=>e.i7=true\/e∈D1 s p k) (z5 L s p k)
 kn:∀n∈(z5 L s p k).c6,n.a6=D1 s p k
theorem c1z{L s:Int}{p:Nat->List m5}{k:Nat}(ha:aW (z5 L s p k)=Z8 L s k)(hok:a26 (Z8 L s k) s k=true)(hl:LW (fun e=>e.i7=true\/e∈D1 s p k) (z5 L s p k)):∀n∈(z5 L s p k).c6,n.a6=D1 s p k:=by
 intro n hn;have hm:aN n∈(Z8 L s k).c6:=by rw [<-ha];exact List.mem_map_of_mem hn
 unfold a26 at hok;simp only [d82] at hok;have h1:=d86.1 hok.2.1 _ hm;simp only [d82,beq_iff_eq] at h1;have hk:n.a6.map a6c=a0U s k:=by
  have:=h1.2;simp only [aN,e0l] at this;rw [<-this];rfl
 rw [<-b2L s p] at hk;refine d8K hk (fun e he => ?_) (by rw [b2L];exact c7k s k);rcases (hl.nd n hn).kn e he with q|q
 ·exfalso
  have hme:a6c e∈a0U s k:=by
   rw [<-b2L s p,<-hk];exact List.mem_map_of_mem he
  unfold a0U at hme;obtain ⟨j,_,hj⟩:=d9l.1 hme;simp only [a6c,Prod.mk.injEq] at hj;rw [q] at hj;exact absurd hj.1 (by decide)
 ·exact q
theorem d5D(s:Int)(k:Nat):0<=F6 s k/\F6 s k<=2:=by unfold F6;omega
theorem a7s{L s:Int}(hL:L=0\/L=1\/L=2)(hs:s=0\/s=1\/s=2){p:Nat->List m5}:∀k,k<=5->(∀j,j<k->z9 (p j)=true/\(p j).length<=100)->Row L s p k
 | 0,hk,hp=>by
  have h1:AW (z5 L s p 0):=b4p b09 L;have h2:aW (z5 L s p 0)=Z8 L s 0:=c2R b09 L;have h3:LW (fun e=>e.i7=true\/e∈D1 s p 0) (z5 L s p 0):=c39 (.inl rfl) b09 c9z L;exact ⟨h1,h2,h3,c1z h2 (a6N hL hs hk) h3⟩
 | k+1,hk,hp=>by
  have h:=a7s hL hs (p:=p) k (by omega) fun j hj=>hp j (by omega)
  obtain ⟨hpk,hlk⟩:=hp k (by omega);have hok:=a6N hL hs (k:=k) (by omega);have he:a1B ⟨1,F6 s k,p k⟩:=⟨by show (p k).length*32<=_;omega,fun _ _=>trivial⟩
  have hf:s6 (p k):=by unfold s6;omega
  have h1:=O2 h.aw he;have hwi:=d5D s k;have hD:m9 (F6 s k) 0 2=true:=C7.2 hwi;have hdo:E0 (z5 L s p k) ⟨1,F6 s k,p k⟩=a0T (z5 L s p k) (F6 s k) (p k):=by
   unfold E0;simp only [hD];rfl
  have h2:aW (z5 L s p (k+1))=Z8 L s (k+1):=by
   show aW (a1P (E0 (z5 L s p k) _) L)=a8O (doA (Z8 L s k) 1 (F6 s k)) L
   rw [c2R h1,a63 h.aw.wi _ (fun _=>⟨hf,hpk⟩),h.ab]
  have hq:(F3 (u7 (z5 L s p k) (F6 s k)) (p k)).b8=⟨false,J9 s k,A6 (u5 (D1 s p k)).1.i0 (p k)⟩:=by
   have hni:=b25 h.aw.wi hwi;have hmem:u7 (z5 L s p k) (F6 s k)∈(z5 L s p k).c6:=by
    obtain ⟨i,hi⟩:∃i:Nat,F6 s k=(i:Int):=⟨(F6 s k).toNat,by omega⟩
    obtain ⟨n,g1,g2,_⟩:=a1j h.aw.wi (i:=i) (by omega);rw [hi,g2];exact d9a g1
   have hid:(u7 (z5 L s p k) (F6 s k)).Id=F6 s k:=by
    obtain ⟨i,hi⟩:∃i:Nat,F6 s k=(i:Int):=⟨(F6 s k).toNat,by omega⟩
    obtain ⟨n,g1,g2,g3,_⟩:=a1j h.aw.wi (i:=i) (by omega);rw [hi,g2];exact g3
   have hsq:(u7 (z5 L s p k) (F6 s k)).Seq=((k / 3:Nat):Int):=by
    unfold a26 at hok;simp only [d82,beq_iff_eq] at hok;have:=hok.2.2.2;rw [<-h.ab,a9L] at this;exact this
   show (⟨false,⟨(u7 (z5 L s p k) (F6 s k)).Id,(u7 (z5 L s p k) (F6 s k)).Seq+1⟩,A6 (a0w (u7 (z5 L s p k) (F6 s k))) (p k)⟩:l7)=_
   unfold a0w;rw [hid,hsq,h.kn _ hmem];rfl
  have h3:LW (fun e=>e.i7=true\/e∈D1 s p (k+1)) (z5 L s p (k+1)):=by
   refine c39 (.inl rfl) h1 ?_ L;rw [hdo];refine c8D h.lw (.inl rfl) (fun e q=>q.imp id fun q=>d96 _ q) (.inr ?_);rw [hq];exact List.mem_append_right _ (by simp)
  exact ⟨b4p h1 L,h2,h3,c1z h2 (a6N hL hs hk) h3⟩
theorem c3o{l:List l7}(hl:l.length<=40)(he:l.all s9=true):∀k,k<=l.length->∀d∈(u5 (l.take k)).1.i5,∃e∈l.take k,e.a7=d.a7
 | 0,_,d,hd=>by
  rw [d9S] at hd;cases hd
 | k+1,hk,d,hd=>by
  have hkl:k<l.length:=by omega
  have hinv:=(a21 hl he k (by omega)).1;have hsub:∀x∈l.take k,x∈l.take (k+1):=fun x hx=>by
   rw [d9H hkl];exact d96 _ hx
  have hlast:l[k]∈l.take (k+1):=e0f.2 ⟨k,by omega,rfl⟩;have old:d∈(u5 (l.take k)).1.i5->∃e∈l.take (k+1),e.a7=d.a7:=fun q=>by
   obtain ⟨e,e1,e2⟩:=c3o hl he k (by omega) d q;exact ⟨e,hsub e e1,e2⟩
  have new:∀c v,d∈W5 (u5 (l.take k)).1.i5 ⟨l[k].a7,c,v⟩->∃e∈l.take (k+1),e.a7=d.a7:=fun c v q=>by
   rcases b9t hinv.sorted q with q|q
   ·exact old q
   ·rw [q];exact ⟨l[k],hlast,rfl⟩
  have fr:d∈(W0 (u5 (l.take k)).1 l[k]).1.i5->∃e∈l.take (k+1),e.a7=d.a7:=by
   unfold W0;cases a2a (u5 (l.take k)).1.i0 l[k].d6
   ·exact new _ _
   ·cases l[k].d6.Code==0
    ·exact new _ _
    ·exact new _ _
  rw [a5x hkl] at hd;have hd:d∈(apply (u5 (l.take k)).1 l[k]).1.i5:=hd;unfold apply at hd;cases hn:l[k].i7
  ·rw [hn] at hd;simp only [e0P] at hd;cases hf:(u5 (l.take k)).1.i5.find? (fun d=>d.a7.b9==l[k].a7.b9) with
   | none=>rw [hf] at hd;exact fr hd
   | some x=>
    rw [hf] at hd;simp only at hd;cases hs:x.a7.Seq==l[k].a7.Seq
    ·rw [hs] at hd;simp only [e0P] at hd;cases hg:decide (x.a7.Seq>l[k].a7.Seq)
     ·rw [hg] at hd;exact fr hd
     ·rw [hg] at hd;exact old hd
    ·rw [hs] at hd;exact old hd
  ·rw [hn] at hd;exact old hd
def P8(s:Int)(p:Nat->List m5)(k:Nat):List m7:=(u5 (D1 s p k)).1.i0
def P3(s:Int)(p:Nat->List m5)(k:Nat):m8:=A6 (P8 s p k) (p k)
theorem d7r{r:m8}(h:O6 r=true)(hc:r.Code≠0):r.c7=0/\r.b6=[]:=by
 rw [a4K] at h;simp only [d82,Bool.or_eq_true,beq_iff_eq] at h;rcases h.2.2.1 with q|q
 ·exact absurd q hc
 ·exact ⟨q.1,d9c q.2⟩
theorem c8a{l:List m7}{r:m8}(h:a5W l r.b5):a2a l r=true:=by
 unfold a2a;rw [d86];intro x hx;obtain ⟨b,b1,b2⟩:=h x hx;rw [b1];simp [b2]
section
variable {L s:Int} {p:Nat->List m5} {n:Nat}
theorem b7d(hok:G6 (D1 s p n)=true){k:Nat}(hk:k<n) :
  (apply (u5 (D1 s p k)).1 ⟨false,J9 s k,P3 s p k⟩).2=(bif (P3 s p k).Code==0 then 0 else 2)/\P8 s p (k+1)=a9j (P8 s p k) (P3 s p k).b6/\(bif ((bif (P3 s p k).Code==0 then (0:Int) else 2)==0) then (P3 s p k).c7 else 0)=(P3 s p k).c7:=by
 obtain ⟨hl,he⟩:=a6R hok;rw [W9] at hl;have hmem:(⟨false,J9 s k,P3 s p k⟩:l7)∈D1 s p n:=d9a (a5d s p hk);have hen:=d86.1 he _ hmem;obtain ⟨_,_,hr,hr3⟩:=a4n hen rfl;have hfs:=c8a (d7F (P8 s p k) (p k));have hdm:=c3o (l:=D1 s p n) (by rw [W9];exact hl) he k (by rw [W9];omega);rw [a6n s p (show k<=n by omega)] at hdm;have hap:apply (u5 (D1 s p k)).1 ⟨false,J9 s k,P3 s p k⟩=W0 (u5 (D1 s p k)).1 ⟨false,J9 s k,P3 s p k⟩:=by
  unfold apply;simp only [e0P];cases hf:(u5 (D1 s p k)).1.i5.find? (fun d=>d.a7.b9==(J9 s k).b9) with
  | none=>rfl
  | some d=>
   obtain ⟨e,e1,e2⟩:=hdm d (List.mem_of_find?_eq_some hf);have hw:d.a7.b9=(J9 s k).b9:=by simpa using List.find?_some hf
   obtain ⟨j,hj,hje⟩:=d9W e1;rw [W9] at hj;have hg:=a5d s p (n:=k) hj;rw [d8Z (by rw [W9];exact hj),hje] at hg;have hq:d.a7=J9 s j:=by
    rw [<-e2,d9K hg]
   rw [hq] at hw;have hlt:(J9 s j).Seq<(J9 s k).Seq:=by
    simp only [J9,F6] at hw ⊢;omega
   simp only;rw [hq];rw [show ((J9 s j).Seq==(J9 s k).Seq)=false by simp;omega,show decide ((J9 s j).Seq>(J9 s k).Seq)=false by simp;omega];rfl
 have hst:P8 s p (k+1)=(apply (u5 (D1 s p k)).1 ⟨false,J9 s k,P3 s p k⟩).1.i0:=by
  unfold P8;have hkl:k<(D1 s p n).length:=by rw [W9];exact hk
  have:=a5x hkl;rw [a6n s p (show k+1<=n by omega),a6n s p (show k<=n by omega)] at this;rw [this];have hg:=a5d s p hk;rw [d8Z hkl] at hg;rw [d9K hg];rfl
 rw [hst,hap];unfold W0;rw [show a2a (u5 (D1 s p k)).1.i0 (P3 s p k)=true from hfs];cases hc:(P3 s p k).Code==0
 ·have hz:=d7r hr (by simpa using hc);refine ⟨rfl,?_,?_⟩
  ·show P8 s p k=_
   rw [hz.2];rfl
  ·rw [hz.1];rfl
 ·exact ⟨rfl,rfl,rfl⟩
def a0A(s:Int)(p:Nat->List m5)(k:Nat):Int:=(P3 s p k).c7
theorem b8f(hok:G6 (D1 s p n)=true):∀k,k<=n->a2w ((d87 k).map p) a5w []=(P8 s p k,(d87 k).map (a0A s p))/\C0 (P8 s p k)=true
 | 0,_=>⟨rfl,b6g⟩
 | k+1,hk=>by
  obtain ⟨h1,h2⟩:=b8f hok k (by omega);obtain ⟨hl,he⟩:=a6R hok;obtain ⟨_,a2,_⟩:=b7d (k:=k) hok (by omega);have hmem:(⟨false,J9 s k,P3 s p k⟩:l7)∈D1 s p n:=d9a (a5d s p (by omega));obtain ⟨_,_,hr,hr3⟩:=a4n (d86.1 he _ hmem) rfl;have hone:H6 (P8 s p k) (p k)=(P8 s p (k+1),a0A s p k,(P3 s p k).Code):=by
   unfold H6;rw [show ((A6 (P8 s p k) (p k)).Code==3)=false by simpa [P3] using hr3,a2];rfl
  refine ⟨?_,?_⟩
  ·rw [List.range_succ,d9j,d9j,e0e,e0e,c4m _ _ _ _ h1 h2,hone];rw [show ((P8 s p (k+1),a0A s p k,(P3 s p k).Code).2.2==3)=false by simpa using hr3];rfl
  ·have:=(a21 hl he (k+1) (by rw [W9];exact hk)).1.boxes;rw [a6n s p hk] at this;exact this
theorem c5c(hr:Row L s p n)(hok:a26 (Z8 L s n) s n=true):(z5 L s p n).Told.length=n/\∀(k:Nat) (t:r9),(z5 L s p n).Told[k]?=some t->t.c7=a0A s p k:=by
 unfold a26 at hok;simp only [d82,beq_iff_eq] at hok;have hk:(z5 L s p n).Told.map (fun t=>(false,t.a7.b9,t.a7.Seq))=a0U s n:=by
  have:=hok.2.2.1;rw [<-hr.ab] at this;show _=_
  rw [<-this];unfold aW;rw [e0l];rfl
 have hlen:(z5 L s p n).Told.length=n:=by
  have:=congrArg List.length hk;unfold a0U at this;simpa using this
 refine ⟨hlen,fun k t ht => ?_⟩;have hkn:k<n:=by
  have:=(d83.1 ht).1;omega
 have hreq:t.a7=J9 s k:=by
  have:=congrArg (fun x=>x[k]?) hk;simp only [d9o,ht,d9t] at this;unfold a0U at this;rw [d9o,List.getElem?_range hkn] at this;have:=d9K this;simp only [Prod.mk.injEq,true_and] at this;obtain ⟨a,b⟩:=this;cases hq:t.a7 with
  | mk x y=>
   rw [hq] at a b;simp only at a b;rw [a,b]
 obtain ⟨x1,x2,_,_,k',y1,y2,y3⟩:=hr.aw.tl.tn t (d9a ht);have hmem:q9 (z5 L s p n) t.Node∈(z5 L s p n).c6:=by
  rw [d69 hr.aw.wi];unfold D3 at x2;obtain h|h|h:t.Node=0\/t.Node=1\/t.Node=2:=by omega
  all_goals rw [h];simp
 have hkno:=hr.kn _ hmem;have hls:=(a6W hr.aw.wi x2).1.list;rw [hkno] at y1 y2 y3 hls;obtain ⟨hk',z1,z2⟩:=a6j y1;have hkk:k'=k:=by
  have hl':k'<n:=by rw [W9] at hk';exact hk'
  have hg:=a5d s p hl';rw [d8Z hk'] at hg;rw [d9K hg,hreq] at z2;simp only [J9,F6,p9.mk.injEq] at z2;omega
 subst hkk;have hg:=a5d s p hkn;rw [d8Z hk'] at hg;have hg:=d9K hg;have hco:P7 (D1 s p n) k'=(bif (P3 s p k').Code==0 then 0 else 2):=by
  rw [b0s hls hk',a6n s p (Nat.le_of_lt hkn),hg];exact (b7d hls hkn).1
 have hva:X0 (D1 s p n) t.a7=(P3 s p k').c7:=by
  unfold X0;rw [y1];simp only [d8Z hk',hg];rfl
 rw [y3,hco,hva];exact (b7d hls hkn).2.2
end
theorem b68{w:j8}(h:WI w):a7i w=some (X6 w):=by
 have go:∀(d k:Nat) (w:j8),WI w->k+d=800->p6 (fun s:j8×Int=>a2c s.1 s.2) (w,(k:Int))=some (.brk (weW d w)):=by
  intro d;induction d with
  | zero=>
   intro k w hw hd;refine E9 (body:=fun s:j8×Int=>a2c s.1 s.2) (b:=w) ?_;unfold a2c;rw [show decide ((k:Int)<800)=false by simp;omega];rfl
  | succ d ih=>
   intro k w hw hd;unfold weW;have hn:decide ((w.g8.length:Int)>0)=decide (0<w.g8.length):=by simp
   cases hz:decide (0<w.g8.length)
   ·refine E9 (body:=fun s:j8×Int=>a2c s.1 s.2) (b:=w) ?_;unfold a2c;rw [show decide ((k:Int)<800)=true by simp;omega,hn,hz];rfl
   ·rw [F8 (body:=fun s:j8×Int=>a2c s.1 s.2) (t:=(E0 w ⟨2,0,[]⟩,((k+1:Nat):Int))) ?_]
    ·exact ih (k+1) _ (b1l hw (M8 2 0)) (by omega)
    ·unfold a2c;rw [show decide ((k:Int)<800)=true by simp;omega,hn,hz,e0O,e0O,b2i hw (M8 2 0),d8Y,B4 (by omega) (by omega)];congr 3
 unfold a7i;rw [show p6 (fun s:j8×Int=>a2c s.1 s.2) (w,0)=_ from go 800 0 w h rfl];rfl
theorem c0F{w:j8}(h:WI w){i:Int}(hi:0<=i/\i<=2):b19 w i=some (a05 w i):=by
 obtain ⟨k,rfl⟩:∃k:Nat,i=(k:Int):=⟨i.toNat,by omega⟩
 obtain ⟨n,g1,g2,_⟩:=a1j h (i:=k) (by omega);have hf:s6 w.c6:=by have:=h.nl;unfold s6;omega
 unfold b19 a05;rw [a9u,g1,d8Y,g2];have hj:a6X w n=some (w.c6.all fun x=>decide (x.Acc.d9<=n.a5)):=by
  unfold a6X;rw [K6 w.c6 hf (fun x=>decide (x.Acc.d9<=n.a5)) false () (fun k hk => ?_) (by unfold b1O;rw [A4];rfl)]
  ·cases w.c6.all fun x=>decide (x.Acc.d9<=n.a5)<;>rfl
  ·unfold b1O;rw [x7 _ k hk,s8 hk,e0O,d8Y];by_cases q:w.c6[k].Acc.d9<=n.a5
   ·rw [decide_eq_true q,decide_eq_false (by omega)];rfl
   ·rw [decide_eq_false q,decide_eq_true (by omega)];rfl
 by_cases p2:n.a9=2
 ·simp only [p2];show a6X w n=some _
  rw [hj];rfl
 ·by_cases p3:n.a9=3
  ·simp only [p3];show a6X w n=some _
   rw [hj];rfl
  ·rw [show (n.a9 != 2)=true by simpa using p2,show (n.a9 != 3)=true by simpa using p3,show (n.a9==2)=false by simpa using p2,show (n.a9==3)=false by simpa using p3];rfl
theorem d6I{w:j8}(h:AW w){i:Int}(hi:0<=i/\i<=2):b1y w i=some (a1P w i):=by
 have go:∀(d k:Nat) (w:j8),AW w->k+d=4->p6 (fun s:j8×Int=>a1z i s.1 s.2) (w,(k:Int))=some (.brk (a0S i d w)):=by
  intro d;induction d with
  | zero=>
   intro k w hw hd;refine E9 (body:=fun s:j8×Int=>a1z i s.1 s.2) (b:=w) ?_;unfold a1z;rw [show decide ((k:Int)<4)=false by simp;omega];rfl
  | succ d ih=>
   intro k w hw hd;unfold a0S;cases ha:a05 w i
   ·have h1:=O2 hw (M8 5 i);rw [F8 (body:=fun s:j8×Int=>a1z i s.1 s.2) (t:=(X6 (E0 w ⟨5,i,[]⟩),((k+1:Nat):Int))) ?_]
    ·exact ih (k+1) _ (P4 h1) (by omega)
    ·unfold a1z;rw [show decide ((k:Int)<4)=true by simp;omega,e0O,c0F hw.wi hi,d8Y,ha,d9u,e0O,b2i hw.wi (M8 5 i),d8Y,b68 h1.wi,d8Y,B4 (by omega) (by omega)];congr 3
   ·refine E9 (body:=fun s:j8×Int=>a1z i s.1 s.2) (b:=w) ?_;unfold a1z;rw [show decide ((k:Int)<4)=true by simp;omega,e0O,c0F hw.wi hi,d8Y,ha];rfl
 have hc:=P4 h;have hcl:=a7H i 4 hc;unfold b1y;rw [b68 h.wi,d8Y,show p6 (fun s:j8×Int=>a1z i s.1 s.2) (X6 w,0)=_ from go 4 0 _ hc rfl,d8Y];show b10 (a0S i 4 (X6 w))=_
 unfold a1P;generalize a0S i 4 (X6 w)=x at hcl;unfold b10 a7j;have step:∀(k:Nat) (x:j8),k<3->AW x->a1E x (k:Int)=some (.nxt (X6 (E0 x ⟨6,(k:Int),[]⟩),((k+1:Nat):Int))):=by
  intro k x hk hx;have h1:=O2 hx (M8 6 (k:Int));unfold a1E;rw [show decide ((k:Int)<3)=true by simp;omega,e0O,b2i hx.wi (M8 6 _),d8Y,b68 h1.wi,d8Y,B4 (by omega) (by omega)];congr 3
 have h2:=P4 (O2 hcl (M8 6 0));have h4:=P4 (O2 h2 (M8 6 1));have b3:∀x,a1E x 3=some (.brk x):=fun x=>by
  unfold a1E;rfl
 rw [F8 (body:=fun s:j8×Int=>a1E s.1 s.2) (s:=(x,0)) (step 0 x (by omega) hcl),F8 (body:=fun s:j8×Int=>a1E s.1 s.2) (step 1 _ (by omega) h2),F8 (body:=fun s:j8×Int=>a1E s.1 s.2) (step 2 _ (by omega) h4),E9 (body:=fun s:j8×Int=>a1E s.1 s.2) (b3 _)];rfl
theorem c0N{w:j8}(h:AW w){i:Int}(hi:0<=i/\i<=2):a4J w i=some (a1P w i):=by
 unfold a4J;have hr:=b4p h i;rw [a8y h.wi.ok,d8Y,b4P.2 h.wi,G2,d8Y,C7.2 hi,d6I h hi,d8Y,a92 hr.wi.ok];rfl
theorem c82{code:List Int}(h:∀x∈code,a2G x):∃b ps,b3m code=some (b,ps)/\ps.length<=10/\∀p∈ps,p.length<=11:=by
 obtain ⟨r,h1,h2⟩:=d3a h;obtain ⟨b,r1,a1,a2⟩:=d8H h2 (by omega);obtain ⟨n,r2,b1,b2,b3,b4⟩:=P9 a2 (by omega) 6;unfold b3m;simp only [h1,a1,b1,d8Y];obtain ⟨x,hx,hq⟩:=b07 (body:=fun s:t5×(List (List m5))×Int=>b0i s.1 s.2.1 s.2.2)
  (fun j s=>s.2.2=(j:Int)/\j<=6/\Rd s.1 (30+200*(6-j))/\s.2.1.length+j<=6/\∀p∈s.2.1,p.length<=11)
  (fun x => ∃b:t5×List (List m5),x=.brk b/\Rd b.1 2000/\b.2.length<=6/\∀p∈b.2,p.length<=11)
  (by
   rintro j ⟨r,out,i⟩ ⟨q1,q2,q3,q4,q5⟩
   simp only at q1 q3 q4 q5 ⊢;subst q1;unfold b0i;cases j with
   | zero=>exact ⟨_,rfl,_,rfl,q3.mono (by omega),by simp only;omega,q5⟩
   | succ j=>
    obtain ⟨p,r',d1,d2,d3⟩:=c1B q3 (by omega);have hpos:decide (((j+1:Nat):Int)>0)=true:=by simp
    have n1:(out.length+1)*24<=140737488355328:=by omega
    rw [hpos,e0O,d1,d8Y,x6 n1,B4 (by omega) (by omega)];refine ⟨_,rfl,j,by omega,by simp only;omega,by omega,d2.mono (by omega),by simp;omega,fun q hq => ?_⟩;rcases d80.1 hq with z|z
    ·exact q5 q z
    ·rw [d84.1 z];show p.length<=11;omega) (k:=n.toNat) (s:=(r2,[],n)) ⟨by simp only;omega,by omega,b2.mono (by omega),by simp;omega,by simp⟩
 obtain ⟨⟨r3,out⟩,rfl,c1,c2,c3⟩:=hq;simp only at c1 c2 c3;rw [hx,d8Y];simp only [j9.go];unfold b42;obtain ⟨v,r4,d1,d2,_⟩:=P9 c1 (by omega) 12;obtain ⟨p,r5,e1,e2,e3⟩:=d5l d2 (by omega);simp only [d1,e1,d8Y];cases v==0
 ·exact ⟨_,_,rfl,by omega,c3⟩
 ·simp only [e0O];rw [x6 (by omega)];refine ⟨_,_,rfl,by simp;omega,fun q hq => ?_⟩;rcases d80.1 hq with z|z
  ·exact c3 q z
  ·rw [d84.1 z];exact e3
theorem c4j{L s:Int}{p:Nat->List m5}{k:Nat}(hr:Row L s p k)(hok:a26 (Z8 L s k) s k=true):a1k (z5 L s p k)=some true/\a7d (z5 L s p k)=some true:=by
 have hw:=hr.aw.wi;unfold a26 at hok;simp only [d82,beq_iff_eq] at hok;have hnet:(z5 L s p k).g8.length=0:=by
  have:=hok.1;rw [<-hr.ab] at this;unfold aW at this;rwa [d9g] at this
 have hbusy:∀n∈(z5 L s p k).c6,n.i4=false:=fun n hn=>by
  have hm:aN n∈(Z8 L s k).c6:=by rw [<-hr.ab];exact List.mem_map_of_mem hn
  have:=d86.1 hok.2.1 _ hm;simp only [d82,d9R] at this;exact this.1
 have hi:a1k (z5 L s p k)=some true:=by
  unfold a1k;rw [a8y hw.ok,d8Y,b4P.2 hw,hnet];simp only [d9e,e0P,show decide (((0:Nat):Int)>0)=false from rfl];have h0:0<(z5 L s p k).c6.length:=by rw [hw.nl];omega
  rw [K6 (z5 L s p k).c6 (hw.ok.1.fits (by decide)) (fun _=>true) false () (fun j hj => ?_) (by unfold a6I;rw [A4];rfl)]
  ·rw [d86.2 fun _ _=>rfl];rfl
  ·unfold a6I;rw [x7 _ j hj,s8 hj,show idx (z5 L s p k).c6 0=some (z5 L s p k).c6[0] from s8 h0];simp only [e0O,d8Y,hbusy _ (d85 hj),e0P,hr.kn _ (d85 hj),hr.kn _ (d85 h0),bne_self_eq_false]
 refine ⟨hi,?_⟩;obtain ⟨v,v1,v2⟩:=c7D hw.ok;rw [hi] at v2;rw [v1,<-v2]
end
end Go.Proofs.YtnafpblodcmpkaaGreat
