/- Abstract values and states of the program, functions of the program and what their calls come to, and what follows from it: part 5 of the text that the law leans on; long names are written short. -/
import Derived.Test.YtobfemcdchmgeaaGreatP4
set_option linter.unusedVariables false
set_option linter.unusedSimpArgs false
set_option linter.unnecessarySimpa false
namespace Go.Proofs.YtobfemcdchmgeaaGreat
open Go
open Option renaming bind_some → f5i, map_some → f6x, getD_some → f6D, map_eq_some_iff → f6J
open List renaming getElem?_eq_getElem → f5j, replicate → f5k, getElem_mem → f5l, getElem?_eq_some_iff → f5o, mem_singleton → f5p, range → f5q, mem_cons → f5r, nodup_append → f5s, eq_nil_of_length_eq_zero → f5t, length_append → f5u, mem_of_getElem? → f5w, getD_eq_getElem?_getD → f5x, drop_eq_getElem_cons → f5z, getElem?_append_right → f5A, append_assoc → f5B, take_length → f5C, getElem?_set_ne → f5D, getElem?_append_left → f5E, drop_eq_nil_of_le → f5F, length_take → f5G, flatten_cons → f5L, take_succ_eq_append_getElem → f5N, getElem?_eq_none → f5O, map_cons → f5Q, append_nil → f5S, take_zero → f5T, any_eq_false → f5U, take_of_length_le → f5V, take_append_of_le_length → f5W, pairwise_iff_getElem → f5X, length_map → f5Y, mem_replicate → f5Z, findIdx?_eq_some_iff_getElem → f6a, nil_append → f6b, take_append_drop → f6e, getElem_of_mem → f6g, mem_flatten → f6h, getElem?_map → f6i, mem_of_mem_drop → f6j, mem_of_mem_take → f6k, getElem?_set_self → f6l, length_cons → f6n, length_singleton → f6o, getElem?_cons_zero → f6p, drop_zero → f6q, mem_take_iff_getElem → f6t, mem_range → f6u, map_append → f6v, getElem?_cons_succ → f6w, pairwise_cons → f6z, length_set → f6B, nodup_cons → f6C, any_eq_true → f6E, mem_append_left → f6G, getElem?_set → f6H, getElem?_drop → f6K, getElem?_take → f6L, find?_cons → f6N, length_nil → f6O, all_eq_false → f6Q, sublist_append_right → f6S, getElem?_of_mem → f6T, pairwise_append → f6U, Perm → f6W, drop_drop → f6X, cons_append → f6Z, getElem_map → f7a, take_succ_cons → f7b, replicate_succ → f7c, foldl_cons → f7d, drop_append_of_le_length → f7e, size_toArray → f7f, toArray → f7g, map_map → f7h, Sublist → f7i, set_getElem_self → f7j, length_replicate → f7l, getElem?_append → f7m, not_mem_nil → f7n, drop_length → f7p, mem_cons_of_mem → f7q, any_cons → f7r, flatten_append → f7s, findIdx?_eq_none_iff → f7t, mem_of_find?_eq_some → f7u, find?_eq_none → f7v, foldl_nil → f7x
open Bool renaming and_eq_true → f5m, not_true → f5n, true_and → f5v, not_false → f5J, false_or → f5R, not_eq_true' → f6c, or_eq_false_iff → f6s, false_eq_true → f6y, and_true → f6A, eq_iff_iff → f6P, and_assoc → f6Y, true_or → f7k, not_not → f7w
open Nat renaming le_refl → f5y, mul_le_mul_right → f5M, eq_of_beq_eq_true → f5P, zero_add → f6m, succ_mul → f6r, lt_of_lt_of_le → f6F, le_mul_of_pos_right → f6I, add_zero → f6M, le_succ_of_le → f6R, zero_le → f6V
open Int renaming le_refl → f5H, toNat_natCast → f5I, tmod → f5K, le_trans → f6d, tdiv → f7o
open Option.some renaming inj → f6f
noncomputable section
theorem b6o{w:m5}(h:R7 w):a8J w=some (C9 w):=by
 have k7:b89 w=some (w.Told.all S0):=by
  unfold b89;rw [R1 w.Told (h.2.2.2.fits (by decide)) S0 false ()]
  ·cases w.Told.all S0<;>rfl
  ·intro k hk;unfold b8G;rw [x8 _ k hk,t9 hk];simp only [cond_true,f5i,e8x];cases S0 w.Told[k]<;>rfl
  ·unfold b8G;rw [z9];rfl
 have k9:b66 w=some (w.d7.all a0m&&w.Told.all S0):=by
  unfold b66;rw [R1 w.d7 (h.2.2.1.fits (by decide)) a0m false ()]
  ·rw [k7];cases w.d7.all a0m<;>rfl
  ·intro k hk;unfold b9k;rw [x8 _ k hk,t9 hk];simp only [cond_true,f5i,c2i,b97 ((h.2.2.1.2 _ (f5l hk)).2.fits (by decide))];unfold a0m;cases p9 w.d7[k].a0.b9 0 2&&p9 w.d7[k].a0.Seq 1 1000<;>cases E2 w.d7[k].i6<;>rfl
  ·unfold b9k;rw [z9];rfl
 have k11:b53 w=some (w.c8.all Q1&&(w.d7.all a0m&&w.Told.all S0)):=by
  unfold b53;rw [R1 w.c8 (h.2.1.fits (by decide)) Q1 false ()]
  ·rw [k9];cases w.c8.all Q1<;>rfl
  ·intro k hk;unfold b5P;rw [x8 _ k hk,t9 hk];simp only [cond_true,f5i,d7S (h.2.1.2 _ (f5l hk))];cases Q1 w.c8[k]<;>rfl
  ·unfold b5P;rw [z9];rfl
 unfold a8J C9;rw [a2t w.a9 (h.1.fits (by decide)) (a3z w) false ()]
 ·rw [k11];simp only [<-a5D];rw [show ((w.a9.length:Int)==3) = !((w.a9.length:Int) != 3) from by simp [bne]];cases ((w.a9.length:Int) != 3)<;>cases decide ((w.c8.length:Int)>40)<;>cases decide ((w.d7.length:Int)>60)<;>cases decide ((w.Told.length:Int)>60)<;>cases (f5q w.a9.length).all (a3z w)<;>rfl
 ·intro k hk _;unfold b83;rw [x8 _ k hk,t9 hk];simp only [cond_true,f5i,b0e (h.1.2 _ (f5l hk)),a3z,f5j hk,bne];cases w.a9[k].Id==(k:Int)<;>cases D8 w.a9[k]<;>rfl
 ·unfold b83;rw [z9];rfl
theorem b1Y{w:m5}(h:R7 w):a52 w=some (C9 w):=by
 have k7:b6p w=some (w.Told.all S0):=by
  unfold b6p;rw [R1 w.Told (h.2.2.2.fits (by decide)) S0 false ()]
  ·cases w.Told.all S0<;>rfl
  ·intro k hk;unfold b56;rw [x8 _ k hk,t9 hk];simp only [cond_true,f5i,M7,b8M];unfold S0;rw [show (w.Told[k].a0.b9==w.Told[k].Node) = !(w.Told[k].a0.b9 != w.Told[k].Node) from by simp [bne]];cases p9 w.Told[k].Node 0 2<;>cases p9 w.Told[k].a0.b9 0 2&&p9 w.Told[k].a0.Seq 1 1000<;>cases (w.Told[k].a0.b9 != w.Told[k].Node)<;>cases p9 w.Told[k].Code 0 4<;>cases p9 w.Told[k].d9 (-1000000) 1000000<;>rfl
  ·unfold b56;rw [z9];rfl
 have k9:b6H w=some (w.d7.all a0m&&w.Told.all S0):=by
  unfold b6H;rw [R1 w.d7 (h.2.2.1.fits (by decide)) a0m false ()]
  ·rw [k7];cases w.d7.all a0m<;>rfl
  ·intro k hk;unfold b8H;rw [x8 _ k hk,t9 hk];simp only [cond_true,f5i,b8M,b8y ((h.2.2.1.2 _ (f5l hk)).2.fits (by decide))];unfold a0m;cases p9 w.d7[k].a0.b9 0 2&&p9 w.d7[k].a0.Seq 1 1000<;>cases E2 w.d7[k].i6<;>rfl
  ·unfold b8H;rw [z9];rfl
 have k11:b9E w=some (w.c8.all Q1&&(w.d7.all a0m&&w.Told.all S0)):=by
  unfold b9E;rw [R1 w.c8 (h.2.1.fits (by decide)) Q1 false ()]
  ·rw [k9];cases w.c8.all Q1<;>rfl
  ·intro k hk;unfold b8Y;rw [x8 _ k hk,t9 hk];simp only [cond_true,f5i,d29 (h.2.1.2 _ (f5l hk))];cases Q1 w.c8[k]<;>rfl
  ·unfold b8Y;rw [z9];rfl
 unfold a52 C9;rw [a2t w.a9 (h.1.fits (by decide)) (a3z w) false ()]
 ·rw [k11];simp only [<-a5D];rw [show ((w.a9.length:Int)==3) = !((w.a9.length:Int) != 3) from by simp [bne]];cases ((w.a9.length:Int) != 3)<;>cases decide ((w.c8.length:Int)>40)<;>cases decide ((w.d7.length:Int)>60)<;>cases decide ((w.Told.length:Int)>60)<;>cases (f5q w.a9.length).all (a3z w)<;>rfl
 ·intro k hk _;unfold b8u;rw [x8 _ k hk,t9 hk];simp only [cond_true,f5i,a8d (h.1.2 _ (f5l hk)),a3z,f5j hk,bne];cases w.a9[k].Id==(k:Int)<;>cases D8 w.a9[k]<;>rfl
 ·unfold b8u;rw [z9];rfl
theorem c91{α:Type}{p:List α->List α->Nat->Bool}(hp:∀(a b:List α) (k:Nat) (x y:α),a[k]?=some x->b[k]?=some y->(p a b k=true↔x=y))(a b:List α):(a.length==b.length&&(f5q a.length).all (p a b))=true↔a=b:=by
 constructor
 ·intro h;simp only [f5m,beq_iff_eq,List.all_eq_true,f6u] at h;refine List.ext_getElem h.1 fun i h1 h2 => ?_
  exact (hp a b i _ _ (f5j h1) (f5j h2)).1 (h.2 i h1)
 ·rintro rfl
  simp only [f5m,beq_iff_eq,List.all_eq_true,f6u,true_and];intro k hk;exact (hp a a k _ _ (f5j hk) (f5j hk)).2 rfl
theorem c4o(a b:n6):a4i a b=true↔a=b:=by
 have h1:=c91 (p:=a2j) (fun a b k x y hx hy=>by
  unfold a2j;rw [hx,hy];cases x;cases y;simp) a.b5 b.b5
 have h2:=c91 (p:=a2w) (fun a b k x y hx hy=>by
  unfold a2w;rw [hx,hy];cases x;cases y;simp) a.b6 b.b6
 unfold a4i;rw [f5m,h1,f5m,h2,f5m,beq_iff_eq,beq_iff_eq];cases a;cases b;simp
theorem a45(a b:m4):Z3 a b=true↔a=b:=by
 unfold Z3;rw [f5m,f5m,c4o];obtain ⟨n,⟨q1,q2⟩,r⟩:=a;obtain ⟨n',⟨q1',q2'⟩,r'⟩:=b;simp [and_assoc]
theorem K4{n lo hi:Int}:p9 n lo hi=true↔lo<=n/\n<=hi:=by unfold p9;simp
theorem e9B{w:m5}(h:C9 w=true):w.a9.length=3/\∀n∈w.a9,D8 n=true:=by
 unfold C9 at h;simp only [f5m,beq_iff_eq,List.all_eq_true,f6u] at h;refine ⟨by omega,fun n hn => ?_⟩;obtain ⟨i,hi,rfl⟩:=f6g hn;have:=h.2.2.2.2.1 i hi;unfold a3z at this;rw [f5j hi] at this;simp only [f5m] at this;exact this.2
theorem e79{n:j6}(h:D8 n=true):p9 n.Id 0 2=true/\O8 n.Acc=true/\G0 n.a5=true/\a06 n=true/\a3Y n=true:=by
 unfold D8 at h;simp only [f5m] at h;exact ⟨h.1,h.2.1,h.2.2.1,h.2.2.2.2.2.1,h.2.2.2.2.2.2.1⟩
theorem e9K{l:List r9}(h:A3 16 c65 l):a25 l=some l:=by
 have hb:=h.1;unfold a25;cases hl:((l.length:Int)==0)
 ·rw [cond_false,u7 (by constructor<;>omega),u7 (by simp)]
 ·simp only [beq_iff_eq] at hl;have:l=[]:=f5t (by omega);rw [this];rfl
theorem e8D{l:List p6}(h:A3 16 d3O l):a7x l=some l:=by
 have hb:=h.1;unfold a7x;cases hl:((l.length:Int)==0)
 ·rw [cond_false,u7 (by constructor<;>omega),u7 (by simp)]
 ·simp only [beq_iff_eq] at hl;have:l=[]:=f5t (by omega);rw [this];rfl
theorem b3E{e:m4}(h:F3 e):a6V e=some e:=by
 unfold a6V c3H;rw [e9K h.2.1,f5i,e8D h.2.2.1];rfl
theorem a0X{e:m4}(h:F3 e):W9 e=some e:=by
 have h1:=h.2.1.1;have h2:=h.2.2.1.1;unfold W9 c2X;rw [u7 (by simp;omega),u7 (by simp;omega)];rfl
theorem f2Z{l:List m4}(h:A3 88 F3 l):b9W l=some l:=by
 have hb:=h.1;unfold b9W;cases hl:((l.length:Int)==0)
 ·rw [cond_false,u7 (by constructor<;>omega),u7 (by simp)]
 ·simp only [beq_iff_eq] at hl;have:l=[]:=f5t (by omega);rw [this];rfl
theorem c2W{l:List m4}(h:A3 88 F3 l):b09 l=some l:=by
 have hf:s9 l:=h.fits (by decide);unfold b09;rw [f2Z h,f5i];have hl:=W4 (body:=fun s:(List m4)×Int=>b1N l s.1 s.2) (fun k=>(l,(k:Int))) l.length (by
  intro k hk;unfold b1N;rw [x8 _ k hk,t9 hk];simp only [cond_true,f5i,b3E (h.2 _ (f5l hk)),E9 hf hk,f5I,f7j])
 rw [show ((0:Nat):Int)=0 from rfl] at hl;rw [hl,C6 (b:=l)]
 ·rfl
 ·unfold b1N;rw [z9];rfl
theorem c5f{l:List m4}(h:A3 88 F3 l):b0A l=some l:=by
 have hf:s9 l:=h.fits (by decide);have hb:=h.1;unfold b0A;have hl:=W4 (body:=fun s:(List m4)×Int=>b21 l s.1 s.2) (fun k=>(l.take k,(k:Int))) l.length (by
  intro k hk;unfold b21;rw [x8 _ k hk,t9 hk];simp only [cond_true,f5i,a0X (h.2 _ (f5l hk)),E9 hf hk];rw [u7 (by rw [f5G];omega),f5N hk])
 rw [show ((0:Nat):Int)=0 from rfl,f5T] at hl;rw [hl,f5C,C6 (b:=l)]
 ·rfl
 ·unfold b21;rw [z9];rfl
def best(w:m5):Nat->Nat
 | 0=>0
 | k+1=>match w.a9[k]?,w.a9[best w k]? with
  | some a,some b=>bif decide ((a.a5.length:Int)>(b.a5.length:Int)) then k else best w k
  | _,_=>best w k
theorem a6G(w:m5):∀k,0<w.a9.length->k<=w.a9.length->best w k<w.a9.length
 | 0,h,_=>h
 | k+1,h,hk=>by
  have hb:=a6G w k h (by omega);unfold best;rw [f5j (show k<w.a9.length by omega),f5j hb];simp only;cases decide ((w.a9[k].a5.length:Int)>(w.a9[best w k].a5.length:Int))
  ·exact hb
  ·exact hk
theorem c3G{w:m5}{k:Nat}(h:0<w.a9.length)(hk:k<w.a9.length):best w (k+1)=bif decide ((w.a9[k].a5.length:Int)>((w.a9[best w k]'(a6G w k h (by omega))).a5.length:Int)) then k else best w k:=by
 conv=>lhs;unfold best
 rw [f5j hk,f5j (a6G w k h (by omega))]
def ist(w:m5):Nat->Int×Int
 | 0=>(-1,0)
 | k+1=>((best w (k+1):Int),((k+1:Nat):Int))
def u6(w:m5):List m4:=match w.a9[best w w.a9.length]? with
 | some n=>n.a5
 | none=>[]
theorem d0Y{w:m5}(h:R7 w)(hn:0<w.a9.length):b1l w=some (u6 w):=by
 have hf:s9 w.a9:=h.1.fits (by decide);unfold b1l;have hl:=W4 (body:=fun s:Int×Int=>b3u w s.1 s.2) (fun k=>((best w k:Int),(k:Int))) w.a9.length (by
  intro k hk;have hb:=a6G w k hn (by omega);unfold b3u c2c;rw [x8 _ k hk,t9 hk,t9 hb,c3G hn hk];simp only [cond_true,f5i,E9 hf hk];cases decide ((w.a9[k].a5.length:Int)>(w.a9[best w k].a5.length:Int))<;>rfl)
 rw [show ((0:Nat):Int)=0 from rfl,show best w 0=0 from rfl] at hl;have hbn:=a6G w w.a9.length hn (f5y _);rw [show ((0:Nat):Int)=0 from rfl] at hl;rw [hl,C6 (b:=(best w w.a9.length:Int))]
 ·simp only [f5i,l9.go];unfold c5T u6;rw [show ((w.a9.length:Int)==0)=false from by rw [<-Bool.not_eq_true,beq_iff_eq];omega,t9 hbn,f5j hbn];simp only [cond_false,f5i,c5f (h.1.2 _ (f5l hbn)).2.2.1]
 ·unfold b3u;rw [z9];rfl
theorem c9P{w:m5}(h:R7 w)(hn:0<w.a9.length):b0O w=some (u6 w):=by
 have hf:s9 w.a9:=h.1.fits (by decide);unfold b0O;have hl:=W4 (body:=fun s:Int×Int=>a5k w s.1 s.2) (ist w) w.a9.length (by
  intro k hk;cases k with
  | zero =>
   show a5k w (-1) 0=some (.nxt ((best w (0+1):Int),((0+1:Nat):Int)))
   unfold a5k b5L;rw [show decide ((0:Int)<(w.a9.length:Int))=true from by simpa using hk,show idx w.a9 0=some w.a9[0] from t9 hk,show best w (0+1)=0 from by rw [c3G hn hk];cases decide ((w.a9[0].a5.length:Int)>(w.a9[best w 0].a5.length:Int))<;>rfl];simp only [cond_true,f5i];have:m8 ((0:Int)+1)=((0+1:Nat):Int):=E9 hf hk;rw [this];rfl
  | succ k =>
   have hb:=a6G w (k+1) hn (by omega);show a5k w (best w (k+1):Int) ((k+1:Nat):Int)=some (.nxt ((best w (k+1+1):Int),((k+1+1:Nat):Int)))
   unfold a5k b5L;rw [x8 _ (k+1) hk,t9 hk,t9 hb,c3G hn hk,show decide ((best w (k+1):Int)<0)=false from by simp];simp only [cond_true,cond_false,f5i,E9 hf hk];cases decide ((w.a9[k+1].a5.length:Int)>(w.a9[best w (k+1)].a5.length:Int))<;>rfl)
 have hbn:=a6G w w.a9.length hn (f5y _);obtain ⟨m,hm⟩:∃m,w.a9.length=m+1:=⟨w.a9.length-1,by omega⟩
 rw [show ist w w.a9.length=((best w w.a9.length:Int),(w.a9.length:Int)) from by rw [hm];rfl] at hl;rw [show p8 (fun s:Int×Int=>a5k w s.1 s.2) ((-1:Int),(0:Int))=_ from hl,C6 (b:=(best w w.a9.length:Int))]
 ·simp only [f5i,l9.go];unfold c4x u6;rw [show decide ((best w w.a9.length:Int)<0)=false from by simp,t9 hbn,f5j hbn];simp only [cond_false,f5i,c2W (h.1.2 _ (f5l hbn)).2.2.1]
 ·unfold a5k;rw [z9];rfl
theorem d1c{w:m5}(h:R7 w)(hw:C9 w=true):0<w.a9.length/\A3 88 F3 (u6 w)/\G0 (u6 w)=true:=by
 obtain ⟨h3,hn⟩:=e9B hw;have h0:0<w.a9.length:=by omega
 have hb:=a6G w w.a9.length h0 (f5y _);refine ⟨h0,?_,?_⟩
 ·unfold u6;rw [f5j hb];exact (h.1.2 _ (f5l hb)).2.2.1
 ·unfold u6;rw [f5j hb];exact (e79 (hn _ (f5l hb))).2.2.1
def D2(q:n7)(e:m4):Bool := !e.i7&&(([e.a0.b9,e.a0.Seq]:List Int)==[q.b9,q.Seq])
theorem a9W{α R S B:Type}{body:S->Option (l7 R S B)}(st:Nat->S)(l:List α)(is:α->Bool)(r:Nat->R)(b:B)(h1:∀(k:Nat) (h:k<l.length),body (st k)=some (bif is l[k] then .ret (r k) else .nxt (st (k+1))))(h2:body (st l.length)=some (.brk b)) :
  p8 body (st 0)=some (match l.findIdx? is with|some k=>.ret (r k)|none=>.brk b):=by
 rcases a4v (body:=body) st l.length (fun k=>match l[k]? with|some x => !is x|none=>true) r b
  (fun k hk _=>by
   rw [h1 k hk,f5j hk];simp only;cases is l[k]<;>rfl) (fun _=>h2) with ⟨h,hall⟩|⟨k,hk,ho,hb,h⟩
 ·have:l.findIdx? is=none:=by
   rw [f7t];intro x hx;obtain ⟨i,hi,rfl⟩:=f6g hx;have:=hall i hi;rw [f5j hi] at this;simpa using this
  rw [this];exact h
 ·have:l.findIdx? is=some k:=by
   rw [f6a];refine ⟨hk,?_,fun j hj => ?_⟩
   ·rw [f5j hk] at ho;simpa using ho
   ·have:=hb j hj;rw [f5j (show j<l.length by omega)] at this;simpa using this
  rw [this];exact h
theorem b13{l:List m4}(h:s9 l)(q:n7):a5U l q=some (match l.findIdx? (D2 q) with|some k=>(k:Int)|none => -1):=by
  unfold a5U;rw [show p8 (fun s:Int=>a9B l q s) 0=_ from a9W (body:=fun s:Int=>a9B l q s) (fun k=>(k:Int)) l (D2 q) (fun k=>(k:Int)) () (by
      intro k hk;unfold a9B c4W D2;rw [x8 _ k hk,t9 hk,<-E9 h hk];simp only [cond_true,f5i];cases l[k].i7<;>cases (([l[k].a0.b9,l[k].a0.Seq]:List Int)==[q.b9,q.Seq])<;>rfl) (by
      unfold a9B;rw [z9];rfl)]
  cases l.findIdx? (D2 q)<;>rfl
theorem c7m{l:List m4}(h:s9 l)(q:n7):a9x l q=some (match l.findIdx? (D2 q) with|some k=>(match l[k]? with|some e=>e.b7.d9|none=>0)|none=>0):=by
  unfold a9x;rw [show p8 (fun s:Int=>a9P l q s) 0=_ from a9W (body:=fun s:Int=>a9P l q s) (fun k=>(k:Int)) l (D2 q) (fun k=>match l[k]? with|some e=>e.b7.d9|none=>0) () (by
      intro k hk;unfold a9P c5W D2;rw [x8 _ k hk,t9 hk,<-E9 h hk,f5j hk];simp only [cond_true,f5i];cases l[k].i7<;>cases (([l[k].a0.b9,l[k].a0.Seq]:List Int)==[q.b9,q.Seq])<;>rfl) (by
      unfold a9P;rw [z9];rfl)]
  cases l.findIdx? (D2 q)<;>rfl
theorem c1v{l:List m4}(hl:l.length<=40)(he:l.all z5=true){k:Nat}(hk:k<l.length):(o8 l).2[k]?=some (apply (o8 (l.take k)).1 l[k]).2:=by
 have key:∀m,k<m->m<=l.length->(o8 (l.take m)).2[k]?=some (apply (o8 (l.take k)).1 l[k]).2:=by
  intro m;induction m with
  | zero=>omega
  | succ m ih =>
   intro h1 h2;have hlen:=(P3 hl he m (by omega)).2.1;rw [a0L (show m<l.length by omega)];unfold b0D;simp only;by_cases q:k<m
   ·rw [f5E (by omega)];exact ih q (by omega)
   ·have:k=m:=by omega
    subst this;rw [f5A (by omega),hlen];simp
 have:=key l.length hk (f5y _);rwa [f5C] at this
def K1(l:List m4)(k:Nat):Int:=(o8 l).2[k]?.getD 0
theorem e45{l:List m4}(h:A3 88 F3 l)(hok:G0 l=true)(q:n7):b8W l q=some (match l.findIdx? (D2 q) with|some k=>(K1 l k,true)|none=>(0,false)):=by
 obtain ⟨hl,he⟩:=X0 hok;have hf:s9 l:=h.fits (by decide);unfold b8W;rw [b90,f5i];have:=a9W (body:=fun s:(List m9)×Int×Int×List q8=>a98 l q s.1 s.2.1 s.2.2.1 s.2.2.2) (fun k=>((o8 (l.take k)).1.g7,(k:Int),(o8 (l.take k)).1.At,(o8 (l.take k)).1.i8)) l (D2 q) (fun k=>(K1 l k,true)) () (by
   intro k hk;obtain ⟨h1,h2,h3⟩:=P3 hl he k (by omega);unfold a98 c3g D2 K1;rw [x8 _ k hk,t9 hk,c1v hl he hk,a0L hk,<-E9 hf hk];simp only [cond_true,f5i];rw [show (⟨(o8 (l.take k)).1.At,(o8 (l.take k)).1.g7,(o8 (l.take k)).1.i8⟩:u0)=(o8 (l.take k)).1 from rfl,b5H h1 (by omega) (List.all_eq_true.1 he _ (f5l hk)) (h.2 _ (f5l hk)).f,f5i];cases l[k].i7<;>cases (([l[k].a0.b9,l[k].a0.Seq]:List Int)==[q.b9,q.Seq])<;>rfl) (by
   unfold a98;rw [z9];rfl)
 rw [f5T] at this;rw [show p8 (fun s:(List m9)×Int×Int×List q8=>a98 l q s.1 s.2.1 s.2.2.1 s.2.2.2) (P4.g7,0,P4.At,P4.i8)=_ from this];cases l.findIdx? (D2 q)<;>rfl
def a30(l:List m4)(t:n5):Bool:=match l.findIdx? (D2 t.a0) with
 | some k=>(K1 l k==t.Code)&&((bif t.Code==0 then (match l[k]? with|some e=>e.b7.d9|none=>0) else 0)==t.d9)
 | none=>false
theorem d7w{w:m5}(h:R7 w)(hw:C9 w=true):b4Z w=some (w.Told.all (a30 (u6 w)))/\b3Q w=some (w.Told.all (a30 (u6 w))):=by
 unfold b4Z b3Q;rw [b6o h,b1Y h,f5i,f5i,hw]
 ·obtain ⟨h0,hlo,hok⟩:=d1c h hw;obtain ⟨hl,he⟩:=X0 hok;have hf:s9 w.Told:=h.2.2.2.fits (by decide);have hfl:s9 (u6 w):=hlo.fits (by decide);have hcl:(o8 (u6 w)).2.length=(u6 w).length:=by
   have:=(P3 hl he (u6 w).length (f5y _)).2.1;rwa [f5C] at this
  simp only [f5n,cond_false];rw [d0Y h h0,c9P h h0,f5i,f5i,b5f (okEntries.s hlo) hl he,f5i];refine ⟨?_,?_⟩
  ·rw [R1 w.Told hf (a30 (u6 w)) false ()]
   ·cases w.Told.all (a30 (u6 w))<;>rfl
   ·intro k hk;unfold b9c c00 a30;rw [x8 _ k hk,t9 hk];simp only [cond_true,f5i,e45 hlo hok,c7m hfl];cases (u6 w).findIdx? (D2 w.Told[k].a0) with
    | none=>rfl
    | some i =>
     simp only;cases hc:K1 (u6 w) i==w.Told[k].Code
     ·rw [show (K1 (u6 w) i != w.Told[k].Code)=true from by rw [bne,hc];rfl];cases K1 (u6 w) i==0<;>rfl
     ·rw [show (K1 (u6 w) i != w.Told[k].Code)=false from by rw [bne,hc];rfl];simp only [beq_iff_eq] at hc;rw [hc];cases w.Told[k].Code==0<;>simp only [cond_true,cond_false,f5i,l9.go,bne,f5v,f5n]<;>(cases (_:Int)==w.Told[k].d9<;>rfl)
   ·unfold b9c;rw [z9];rfl
  ·rw [R1 w.Told hf (a30 (u6 w)) false ()]
   ·cases w.Told.all (a30 (u6 w))<;>rfl
   ·intro k hk;unfold b5l c0U a30;rw [x8 _ k hk,t9 hk];simp only [cond_true,f5i,b13 hfl];cases hfi:(u6 w).findIdx? (D2 w.Told[k].a0) with
    | none=>rfl
    | some i =>
     obtain ⟨hi,_⟩:=f6a.1 hfi;simp only;rw [show decide ((i:Int)<0)=false from by simp,t9 (show i<(o8 (u6 w)).2.length by omega),t9 hi,f5j hi];have hco:K1 (u6 w) i=(o8 (u6 w)).2[i]'(by omega):=by unfold K1;rw [f5j (by omega)];rfl
     rw [hco];simp only [cond_false,f5i];cases hc:(o8 (u6 w)).2[i]'(by omega)==w.Told[k].Code
     ·rw [show ((o8 (u6 w)).2[i]'(by omega) != w.Told[k].Code)=true from by rw [bne,hc];rfl];rfl
     ·rw [show ((o8 (u6 w)).2[i]'(by omega) != w.Told[k].Code)=false from by rw [bne,hc];rfl];have hcomm:∀x:Int,(w.Told[k].d9==x)=(x==w.Told[k].d9):=fun x=>by
       rw [f6P,beq_iff_eq,beq_iff_eq];exact eq_comm
      cases w.Told[k].Code==0<;>simp only [cond_true,cond_false,f5i,l9.go,bne,f5v,f5n,hcomm]<;>(cases (_:Int)==w.Told[k].d9<;>rfl)
   ·unfold b5l;rw [z9];rfl
theorem c31{α B R:Type}{body:Int->Option (l7 R Int B)}(l:List α)(hl:s9 l)(ok:α->Bool)(v:R)(b:B)(h1:∀(k:Nat) (h:k<l.length),body (k:Int)=some (bif ok l[k] then .nxt (m8 ((k:Int)+1)) else .ret v))(h2:body (l.length:Int)=some (.brk b)):p8 body 0=some (bif l.all ok then .brk b else .ret v):=by
 have h:=a4v (body:=body) (fun k=>(k:Int)) l.length (fun k=>match l[k]? with|some x=>ok x|none=>true) (fun _=>v) b
  (fun k hk _=>by
   have:=h1 k hk;rw [E9 hl hk] at this;simpa [f5j hk] using this) (fun _=>h2)
 rcases h with ⟨h,hall⟩|⟨k,hk,ho,_,h⟩
 ·have:l.all ok=true:=by
   rw [List.all_eq_true];intro x hx;obtain ⟨i,hi,rfl⟩:=f6g hx;have:=hall i hi;simpa [f5j hi] using this
  rw [this];exact h
 ·have:l.all ok=false:=by
   rw [f6Q];refine ⟨l[k],f5l hk,?_⟩;simpa [f5j hk] using ho
  rw [this];exact h
theorem b4b{l:List r9}(h:l.length<=1000):a25 l=some l:=by
 unfold a25;cases hl:((l.length:Int)==0)
 ·rw [cond_false,u7 (by constructor<;>omega),u7 (by simp)]
 ·simp only [beq_iff_eq] at hl;have:l=[]:=f5t (by omega);rw [this];rfl
theorem d8S{l:List p6}(h:l.length<=1000):a7x l=some l:=by
 unfold a7x;cases hl:((l.length:Int)==0)
 ·rw [cond_false,u7 (by constructor<;>omega),u7 (by simp)]
 ·simp only [beq_iff_eq] at hl;have:l=[]:=f5t (by omega);rw [this];rfl
def X7(ps:List p6)(b:Int):Option Nat:=ps.findIdx? (·.i5==b)
def atI:Option Nat->Int
 | some k=>(k:Int)
 | none => -1
theorem d3W{l:List p6}(h:s9 l)(b:Int):a2H l b=some (atI (X7 l b)):=by
 unfold a2H;rw [show (0:Int)=((0:Nat):Int) from rfl,a9W (body:=fun s:Int=>a1B l b s) (fun k=>(k:Int)) l (·.i5==b) (fun k=>(k:Int)) ()]
 ·unfold X7;cases l.findIdx? (·.i5==b)<;>rfl
 ·intro k hk;unfold a1B;rw [x8 _ k hk,t9 hk,E9 h hk];simp only [cond_true,f5i];cases l[k].i5==b<;>rfl
 ·unfold a1B;rw [z9];rfl
theorem d0t{x:n6}(h:s9 x.b6)(b:Int):b3q x b=some (atI (X7 x.b6 b)):=by
 unfold b3q;rw [show (0:Int)=((0:Nat):Int) from rfl,a9W (body:=fun s:Int=>b2h x b s) (fun k=>(k:Int)) x.b6 (·.i5==b) (fun k=>(k:Int)) ()]
 ·unfold X7;cases x.b6.findIdx? (·.i5==b)<;>rfl
 ·intro k hk;unfold b2h;rw [x8 _ k hk,t9 hk,E9 h hk];simp only [cond_true,f5i];cases x.b6[k].i5==b<;>rfl
 ·unfold b2h;rw [z9];rfl
theorem b8D{ps:List p6}{b:Int}{k:Nat}(h:X7 ps b=some k):k<ps.length:=by
 obtain ⟨hk,_⟩:=f6a.1 h;exact hk
theorem b57(k:Nat):decide (atI (some k)>=0)=true:=by simp [atI]
theorem b7a:decide (atI none>=0)=false:=by simp [atI]
theorem e1x{x:n6}(h:s9 x.b5)(b:Int):∃v,b3n x b=some v/\decide (v<0) = !(J3 x.b5 b):=by
 obtain ⟨v,h1,h2⟩:=e0D h b;refine ⟨v,h1,?_⟩;rw [<-h2];by_cases q:v>=0
 ·have:¬v<0:=by omega
  simp [q,this]
 ·have:v<0:=by omega
  simp [q,this]
def I1(v:Int):Bool:=p9 v (-1000000) 1000000
def J7(regs:List Int)(a:Int):Int:=regs.getD a.toNat 0
theorem M4{regs:List Int}(h:regs.length=4){a:Int}(ha:0<=a/\a<=3):idx regs a=some (J7 regs a):=by
 obtain ⟨k,rfl⟩:=Int.eq_ofNat_of_zero_le ha.1;have hk:k<regs.length:=by omega
 rw [t9 hk];unfold J7;simp [hk]
theorem d8P{regs:List Int}(h:regs.length=4){a v:Int}(ha:0<=a/\a<=3):J7 (regs.set a.toNat v) a=v:=by
 unfold J7;have:a.toNat<regs.length:=by omega
 simp [this]
theorem e9q{regs:List Int}(h:regs.length=4)(hr:regs.all I1=true){a v:Int}(ha:0<=a/\a<=3):(regs.set a.toNat v).all I1=I1 v:=by
 cases hv:I1 v
 ·rw [f6Q];exact ⟨v,f5w (i:=a.toNat) (by rw [f6l (by omega)]),by simp [hv]⟩
 ·rw [List.all_eq_true] at hr ⊢;intro x hx;rcases List.mem_or_eq_of_mem_set hx with hx|rfl
  ·exact hr x hx
  ·exact hv
theorem a4R{regs:List Int}(h:regs.length=4)(hr:regs.all I1=true){a:Int}(ha:0<=a/\a<=3):-1000000<=J7 regs a/\J7 regs a<=1000000:=by
 have hi:=M4 h ha;have hm:J7 regs a∈regs:=f5w (b73 hi).2.2;have:=List.all_eq_true.1 hr _ hm;simpa [I1,p9] using this
structure EI(regs:List Int)(rs:List r9)(ps:List p6)(k:Nat):Prop where
 len:regs.length=4
 rng:regs.all I1=true
 rl:rs.length<=k
 pl:ps.length<=k
theorem EI.fr{regs:List Int}{rs:List r9}{ps:List p6}{k:Nat}(h:EI regs rs ps k)(hk:k<=100):s9 rs:=by
 have:=h.rl;unfold s9;omega
theorem EI.fp{regs:List Int}{rs:List r9}{ps:List p6}{k:Nat}(h:EI regs rs ps k)(hk:k<=100):s9 ps:=by
 have:=h.pl;unfold s9;omega
def E8(l:List m9)(i:n8)(regs:List Int)(rs:List r9)(ps:List p6):List Int×List r9×List p6 :=
 bif i.a8==1 then (match X7 ps i.B with
  | some k=>(match ps[k]? with
   | some p=>(regs.set i.A.toNat p.d9,rs,ps)
   | none=>(regs,rs,ps))
  | none=>match l[i.B.toNat]? with
   | some b=>(regs.set i.A.toNat b.d9,bif J3 rs i.B then rs else rs++[⟨i.B,b.j4⟩],ps)
   | none=>(regs,rs,ps))
 else bif i.a8==2 then (regs,rs,match X7 ps i.A with
  | some k=>(match ps[k]? with
   | some p=>ps.set k ⟨p.i5,J7 regs i.B⟩
   | none=>ps)
  | none=>ps++[⟨i.A,J7 regs i.B⟩])
 else bif i.a8==3 then (regs.set i.A.toNat i.N,rs,ps)
 else bif i.a8==4 then (regs.set i.A.toNat (J7 regs i.A+J7 regs i.B),rs,ps)
 else bif i.a8==5 then (regs.set i.A.toNat (J7 regs i.A-J7 regs i.B),rs,ps)
 else (regs,rs,ps)
def V9(l:List m9)(prog:List n8):Nat->Nat->List Int->List r9->List p6->n6
 | 0,_,regs,rs,ps=>⟨rs,ps,J7 regs 0,0⟩
 | f+1,k,regs,rs,ps=>match prog[k]? with
  | none=>⟨rs,ps,J7 regs 0,0⟩
  | some i=>bif i.a8==6 then V9 l prog f (bif decide (J7 regs i.A<J7 regs i.B) then k+i.N.toNat+1 else k+1) regs rs ps
   else bif i.a8==7 then ⟨rs,[],0,1⟩
   else bif (E8 l i regs rs ps).1.all I1 then V9 l prog f (k+1) (E8 l i regs rs ps).1 (E8 l i regs rs ps).2.1 (E8 l i regs rs ps).2.2
   else ⟨(E8 l i regs rs ps).2.1,[],0,2⟩
def B8(l:List m9)(prog:List n8):n6:=bif C4 l&&E2 prog then V9 l prog (prog.length+1) 0 [0,0,0,0] [] [] else ⟨[],[],0,3⟩
section
variable {l:List m9} {regs:List Int} {rs:List r9} {ps:List p6} {k:Nat} {i:n8}
theorem d5s(h:regs.length=4):(E8 l i regs rs ps).1.length=4:=by
 unfold E8;cases i.a8==1<;>cases i.a8==2<;>cases i.a8==3<;>cases i.a8==4<;>cases i.a8==5<;>simp only [cond_true,cond_false,f6B,h]
 all_goals
  split
  ·split<;>simp [h]
  ·split<;>simp [h]
theorem e5O(h:rs.length<=k):(E8 l i regs rs ps).2.1.length<=k+1:=by
 unfold E8;cases i.a8==1<;>cases i.a8==2<;>cases i.a8==3<;>cases i.a8==4<;>cases i.a8==5<;>simp only [cond_true,cond_false]<;>try omega
 all_goals
  split
  ·split<;>(simp only;omega)
  ·split
   ·cases J3 rs i.B<;>simp only [cond_true,cond_false,f5u,f6o]<;>omega
   ·simp only;omega
theorem d69(h:ps.length<=k):(E8 l i regs rs ps).2.2.length<=k+1:=by
 unfold E8;cases i.a8==1<;>cases i.a8==2<;>cases i.a8==3<;>cases i.a8==4<;>cases i.a8==5<;>simp only [cond_true,cond_false]<;>try omega
 all_goals (repeat' split)
 all_goals (try simp only [f6B,f5u,f6o])
 all_goals omega
theorem EI.next(h:EI regs rs ps k)(ha:(E8 l i regs rs ps).1.all I1=true):EI (E8 l i regs rs ps).1 (E8 l i regs rs ps).2.1 (E8 l i regs rs ps).2.2 (k+1) :=
 ⟨d5s h.len,ha,e5O h.rl,d69 h.pl⟩
theorem b5E{x:Int}(h:-1000000<=x/\x<=1000000){y:Int}(h':-1000000<=y/\y<=1000000):m8 (x+y)=x+y/\m8 (x-y)=x-y:=⟨C2 (by omega) (by omega),C2 (by omega) (by omega)⟩
theorem e4H(hl:C4 l=true)(he:EI regs rs ps k)(hk:k<=100)(hi:R0 i=true)(h6:i.a8≠6)(h7:i.a8≠7) :
  a7b l ⟨rs,ps,0,0⟩ regs i=some (⟨(E8 l i regs rs ps).2.1,(E8 l i regs rs ps).2.2,0,bif (E8 l i regs rs ps).1.all I1 then 0 else 2⟩,(E8 l i regs rs ps).1):=by
 have hfr:=he.fr hk;have hfp:=he.fp hk;have hrl:=he.rl;have hpl:=he.pl;have n1:(rs.length+1)*16<=140737488355328:=by omega
 have n2:(ps.length+1)*16<=140737488355328:=by omega
 have fin:∀(a v:Int) (rs':List r9) (ps':List p6),0<=a/\a<=3->i.a8≠2->i.A=a->a3J i (regs.set a.toNat v) rs' ps' 0 0=some (⟨rs',ps',0,bif (regs.set a.toNat v).all I1 then 0 else 2⟩,regs.set a.toNat v):=by
  intro a v rs' ps' ha h2 hia;unfold a3J a8k;rw [show (i.a8 != 2)=true from by simpa using h2,cond_true,hia,M4 (by simpa using he.len) ha,f5i,a6R,f5i,d8P he.len ha,e9q he.len he.rng ha];unfold I1;cases p9 v (-1000000) 1000000<;>rfl
 unfold a7b E8;rcases a9j hi with ⟨h,ha,hb⟩|⟨h,ha,hb⟩|⟨h,ha,hn⟩|⟨h,ha,hb⟩|⟨h,ha,hb⟩|⟨h,_⟩|⟨h,_⟩
 ·simp only [h,show ((1:Int)==1)=true from rfl,cond_true];unfold b2C b1G;rw [d3W hfp,f5i];cases hp:X7 ps i.B with
  | some j =>
   have hj:=b8D hp;simp only [b57,cond_true,f5j hj];simp only [atI,t9 hj,f5i,M4 he.len ha,l9.go];exact fin i.A _ rs ps ha (by omega) rfl
  | none =>
   obtain ⟨b,hb1,hb2,_⟩:=a4K hl hb;simp only [b7a,cond_false,c33 hfr,f5i,hb1,hb2,u7 n1];cases hs:J3 rs i.B
   ·simp only [f5J,cond_true,cond_false,f5i,l9.go,hb1,M4 he.len ha];exact fin i.A _ _ _ ha (by omega) rfl
   ·simp only [f5n,cond_true,cond_false,f5i,l9.go,hb1,M4 he.len ha];exact fin i.A _ _ _ ha (by omega) rfl
 ·simp only [h,show ((2:Int)==1)=false from rfl,show ((2:Int)==2)=true from rfl,cond_true,cond_false,M4 he.len hb,f5i];unfold b2b;rw [d3W hfp,f5i];have fin2:∀ps':List p6,a3J i regs rs ps' 0 0=some (⟨rs,ps',0,bif regs.all I1 then 0 else 2⟩,regs):=by
   intro ps';unfold a3J a8k;rw [he.rng,h];rfl
  cases hp:X7 ps i.A with
  | some j =>
   have hj:=b8D hp;simp only [b57,cond_true,f5j hj];simp only [atI,t9 hj,f5i,l9.go,f5I];exact fin2 _
  | none =>
   simp only [b7a,cond_false,u7 n2,f5i,l9.go];exact fin2 _
 ·simp only [h,show ((3:Int)==1)=false from rfl,show ((3:Int)==2)=false from rfl,show ((3:Int)==3)=true from rfl,cond_true,cond_false,M4 he.len ha,f5i,l9.go];exact fin i.A _ _ _ ha (by omega) rfl
 ·simp only [h,show ((4:Int)==1)=false from rfl,show ((4:Int)==2)=false from rfl,show ((4:Int)==3)=false from rfl,show ((4:Int)==4)=true from rfl,cond_true,cond_false,M4 he.len ha,M4 he.len hb,f5i,l9.go,(b5E (a4R he.len he.rng ha) (a4R he.len he.rng hb)).1];exact fin i.A _ _ _ ha (by omega) rfl
 ·simp only [h,show ((5:Int)==1)=false from rfl,show ((5:Int)==2)=false from rfl,show ((5:Int)==3)=false from rfl,show ((5:Int)==4)=false from rfl,show ((5:Int)==5)=true from rfl,cond_true,cond_false,M4 he.len ha,M4 he.len hb,f5i,l9.go,(b5E (a4R he.len he.rng ha) (a4R he.len he.rng hb)).2];exact fin i.A _ _ _ ha (by omega) rfl
 ·exact absurd h h6
 ·exact absurd h h7
theorem e23(hi:i.a8=7)(ha:i.A=0)(he:EI regs rs ps k):a7b l ⟨rs,ps,0,0⟩ regs i=some (⟨rs,ps,0,1⟩,regs):=by
 have hin:=a4R he.len he.rng (a:=0) (by omega);unfold a7b a3J a8k;simp only [hi,ha,show ((7:Int)==1)=false from rfl,show ((7:Int)==2)=false from rfl,show ((7:Int)==3)=false from rfl,show ((7:Int)==4)=false from rfl,show ((7:Int)==5)=false from rfl,show ((7:Int)==7)=true from rfl,show ((7:Int) != 2)=true from rfl,cond_true,cond_false,f5i,l9.go,M4 he.len (a:=0) (by omega),a6R];rw [show p9 (J7 regs 0) (-1000000) 1000000=true from by simp [p9];exact hin];rfl
theorem d3f(l:List m9){prog:List n8}{f k:Nat}{regs:List Int}{rs:List r9}{ps:List p6}(h:prog.length<=k):V9 l prog f k regs rs ps=⟨rs,ps,J7 regs 0,0⟩:=by
 cases f with
 | zero=>rfl
 | succ f =>
  unfold V9;rw [f5O h]
theorem c4B{prog:List n8}(hp:E2 prog=true):prog.length<=10/\∀i∈prog,R0 i=true:=by
 unfold E2 at hp;simpa using hp
theorem d44(l:List m9)(prog:List n8)(regs:List Int)(rs:List r9)(ps:List p6)(k c:Int)(hc:(c==0)=false) :
  ((p8 (fun s:(List Int)×(List r9)×(List p6)×Int×Int×Int=>a0U l prog s.1 s.2.1 s.2.2.1 s.2.2.2.1 s.2.2.2.2.1 s.2.2.2.2.2) (regs,rs,ps,k,0,c)).bind fun x=>x.go (fun r=>some r) fun s=>a5O s.1 s.2.1 s.2.2.1 s.2.2.2.1 s.2.2.2.2)=some ⟨rs,[],0,c⟩:=by
 rw [C6 (b:=(rs,ps,regs,0,c))]
 ·simp only [f5i,l9.go];unfold a5O;rw [bne,hc];rfl
 ·unfold a0U;simp only [hc,cond_false];cases decide (k<(prog.length:Int))<;>rfl
theorem f1N(hl:C4 l=true){prog:List n8}(hp:E2 prog=true):∀(f k:Nat) (regs:List Int) (rs:List r9) (ps:List p6),EI regs rs ps k->prog.length<k+f->k<=prog.length+10->
  ((p8 (fun s:(List Int)×(List r9)×(List p6)×Int×Int×Int=>a0U l prog s.1 s.2.1 s.2.2.1 s.2.2.2.1 s.2.2.2.2.1 s.2.2.2.2.2) (regs,rs,ps,(k:Int),0,0)).bind fun x=>x.go (fun r=>some r) fun s=>a5O s.1 s.2.1 s.2.2.1 s.2.2.2.1 s.2.2.2.2)=some (V9 l prog f k regs rs ps):=by
 obtain ⟨hlen,hins⟩:=c4B hp;intro f;induction f with
 | zero =>
  intro k regs rs ps he hf hk;rw [C6 (b:=(rs,ps,regs,0,0))]
  ·simp only [f5i,l9.go];unfold a5O;rw [show ((0:Int) != 0)=false from rfl,cond_false,M4 he.len (a:=0) (by omega)];rfl
  ·unfold a0U;rw [show decide ((k:Int)<(prog.length:Int))=false from by simp;omega];rfl
 | succ f ih =>
  intro k regs rs ps he hf hk;by_cases hlt:k<prog.length
  ·have hi:=hins _ (f5l hlt);unfold V9;rw [f5j hlt];simp only;by_cases h6:prog[k].a8=6
   ·obtain ⟨ha,hb,hn⟩:(0<=prog[k].A/\prog[k].A<=3)/\(0<=prog[k].B/\prog[k].B<=3)/\1<=prog[k].N/\prog[k].N<=10:=by
     rcases a9j hi with ⟨h,_⟩|⟨h,_⟩|⟨h,_⟩|⟨h,_⟩|⟨h,_⟩|⟨h,x⟩|⟨h,_⟩
     all_goals first|(exact x)|(exfalso;omega)
    have hb1:a0U l prog regs rs ps (k:Int) 0 0=some (.nxt (regs,rs,ps,((bif decide (J7 regs prog[k].A<J7 regs prog[k].B) then k+prog[k].N.toNat+1 else k+1:Nat):Int),0,0)):=by
     unfold a0U b6u;rw [x8 _ k hlt,t9 hlt];simp only [cond_true,f5i,h6,show ((6:Int)==6)=true from rfl,show ((0:Int)==0)=true from rfl,M4 he.len ha,M4 he.len hb];cases decide (J7 regs prog[k].A<J7 regs prog[k].B)
     ·simp only [cond_false,f5i,l9.go];rw [C2 (by omega) (by omega)];rfl
     ·simp only [cond_true,f5i,l9.go];rw [C2 (n:=(k:Int)+prog[k].N) (by omega) (by omega),C2 (by omega) (by omega),show ((k+prog[k].N.toNat+1:Nat):Int)=(k:Int)+prog[k].N+1 from by omega]
    rw [E3 hb1,h6];simp only [show ((6:Int)==6)=true from rfl,cond_true];refine ih _ _ _ _ ⟨he.len,he.rng,?_,?_⟩ ?_ ?_;all_goals
     have h1:=he.rl;have h2:=he.pl;cases decide (J7 regs prog[k].A<J7 regs prog[k].B)<;>simp only [cond_true,cond_false]<;>omega
   by_cases h7:prog[k].a8=7
   ·have ha:prog[k].A=0:=by
     rcases a9j hi with ⟨h,_⟩|⟨h,_⟩|⟨h,_⟩|⟨h,_⟩|⟨h,_⟩|⟨h,_⟩|⟨h,x⟩
     all_goals first|(exact x)|(exfalso;omega)
    have hb1:a0U l prog regs rs ps (k:Int) 0 0=some (.nxt (regs,rs,ps,m8 ((k:Int)+1),0,1)):=by
     unfold a0U;rw [x8 _ k hlt,t9 hlt];simp only [cond_true,f5i,show ((0:Int)==0)=true from rfl,e23 h7 ha he,h7,show ((7:Int)==6)=false from rfl,cond_false];rw [u7 trivial]
    rw [E3 hb1,d44 _ _ _ _ _ _ _ rfl,h7];rfl
   ·have hs:=e4H hl he (by omega) hi h6 h7;have hb1:a0U l prog regs rs ps (k:Int) 0 0=some (.nxt ((E8 l prog[k] regs rs ps).1,(E8 l prog[k] regs rs ps).2.1,(E8 l prog[k] regs rs ps).2.2,((k+1:Nat):Int),0,bif (E8 l prog[k] regs rs ps).1.all I1 then 0 else 2)):=by
     unfold a0U;rw [x8 _ k hlt,t9 hlt];simp only [cond_true,f5i,show ((0:Int)==0)=true from rfl,hs,show (prog[k].a8==6)=false from by simpa using h6,cond_false];rw [u7 (by rw [d5s he.len];exact he.len),C2 (by omega) (by omega)];rfl
    rw [E3 hb1,show (prog[k].a8==6)=false from by simpa using h6,show (prog[k].a8==7)=false from by simpa using h7,cond_false,cond_false];cases hall:(E8 l prog[k] regs rs ps).1.all I1
    ·rw [cond_false,cond_false,d44 _ _ _ _ _ _ _ rfl]
    ·rw [cond_true,cond_true];exact ih _ _ _ _ (he.next hall) (by omega) (by omega)
  ·rw [d3f l (by omega),C6 (b:=(rs,ps,regs,0,0))]
   ·simp only [f5i,l9.go];unfold a5O;rw [show ((0:Int) != 0)=false from rfl,cond_false,M4 he.len (a:=0) (by omega)];rfl
   ·unfold a0U;rw [show decide ((k:Int)<(prog.length:Int))=false from by simp;omega];rfl
theorem ei0:EI [0,0,0,0] [] [] 0:=⟨rfl,by decide,by simp,by simp⟩
theorem c0P{l:List m9}{prog:List n8}(hl:s9 l)(hp:s9 prog):a7N l prog=some (B8 l prog):=by
 unfold a7N B8;rw [b72 hl,f5i,b97 hp,f5i];cases hb:C4 l
 ·rfl
 cases ho:E2 prog
 ·rfl
 rw [f5n,cond_false,cond_false,u7 (by decide)];have:=f1N hb ho (prog.length+1) 0 [0,0,0,0] [] [] ei0 (by omega) (by omega);exact this
theorem e8K{regs:List Int}{Reads1:List r9}{ins:n8}{put1:p6}(h:regs.length=4)(hr:Reads1.length<=1000):p8 (fun s:Int=>b2y regs Reads1 ins put1 s) 0=some (bif (regs.set ins.A.toNat put1.d9).all I1 then .brk () else .ret ⟨Reads1,[],0,2⟩):=by
 have hl:(regs.set ins.A.toNat put1.d9).length=4:=by simpa using h
 refine c31 (regs.set ins.A.toNat put1.d9) (by unfold s9;omega) I1 _ () (fun k hk => ?_) ?_
 ·have hk4:(k:Int)<4:=by omega
  unfold b2y;rw [decide_eq_true hk4,t9 hk,cond_true,f5i,u7 hk4,M7,f5i,b4b hr];unfold I1;cases p9 (regs.set ins.A.toNat put1.d9)[k] (-1000000) 1000000<;>rfl
 ·unfold b2y;rw [hl];rfl
theorem d2T{regs:List Int}{Reads1:List r9}{ins:n8}{box:m9}(h:regs.length=4)(hr:Reads1.length<=1000):p8 (fun s:Int=>b4s regs ins Reads1 box s) 0=some (bif (regs.set ins.A.toNat box.d9).all I1 then .brk () else .ret ⟨Reads1,[],0,2⟩):=by
 have hl:(regs.set ins.A.toNat box.d9).length=4:=by simpa using h
 refine c31 (regs.set ins.A.toNat box.d9) (by unfold s9;omega) I1 _ () (fun k hk => ?_) ?_
 ·have hk4:(k:Int)<4:=by omega
  unfold b4s;rw [decide_eq_true hk4,t9 hk,cond_true,f5i,u7 hk4,M7,f5i,b4b hr];unfold I1;cases p9 (regs.set ins.A.toNat box.d9)[k] (-1000000) 1000000<;>rfl
 ·unfold b4s;rw [hl];rfl
theorem c1N{regs:List Int}{Reads1:List r9}(h:regs.length=4)(hr:Reads1.length<=1000):p8 (fun s:Int=>b4M Reads1 regs s) 0=some (bif regs.all I1 then .brk () else .ret ⟨Reads1,[],0,2⟩):=by
 refine c31 regs (by unfold s9;omega) I1 _ () (fun k hk => ?_) ?_
 ·have hk4:(k:Int)<4:=by omega
  unfold b4M;rw [decide_eq_true hk4,t9 hk,cond_true,f5i,u7 hk4,M7,f5i,b4b hr];unfold I1;cases p9 regs[k] (-1000000) 1000000<;>rfl
 ·unfold b4M;rw [h];rfl
theorem f0w(hl:C4 l=true)(he:EI regs rs ps k)(hk:k<=100){prog:List n8}(hkl:k<prog.length)(hpl:prog.length<=10)(R:List r9)(P:List p6)(hi:R0 prog[k]=true)(h6:prog[k].a8≠6)(h7:prog[k].a8≠7) :
  a2V l prog regs R P rs ps (k:Int)=some (bif (E8 l prog[k] regs rs ps).1.all I1 then .nxt ((E8 l prog[k] regs rs ps).1,R,P,(E8 l prog[k] regs rs ps).2.1,(E8 l prog[k] regs rs ps).2.2,((k+1:Nat):Int)) else .ret ⟨(E8 l prog[k] regs rs ps).2.1,[],0,2⟩):=by
 have hfr:=he.fr hk;have hfp:=he.fp hk;have hrl:=he.rl;have hpl:=he.pl;have n1:(rs.length+1)*16<=140737488355328:=by omega
 have n2:(ps.length+1)*16<=140737488355328:=by omega
 have hw:m8 ((k:Int)+1)=((k+1:Nat):Int):=by rw [C2 (by omega) (by omega)];rfl
 have fin:∀(regs':List Int) (ps':List p6),regs'.length=4->b0v R P rs regs' ps' (k:Int)=some (bif regs'.all I1 then .nxt (regs',R,P,rs,ps',((k+1:Nat):Int)) else .ret ⟨rs,[],0,2⟩):=by
  intro regs' ps' h;unfold b0v b35;rw [c1N h (by omega),hw];cases regs'.all I1<;>rfl
 have hset:∀(a:Nat) (v:Int),(regs.set a v).length=4:=fun a v=>by simpa using he.len
 unfold a2V E8;generalize hin:prog[k]=i at hi h6 h7;rw [x8 _ k hkl,t9 hkl,hin,cond_true,f5i];rcases a9j hi with ⟨h,ha,hb⟩|⟨h,ha,hb⟩|⟨h,ha,hn⟩|⟨h,ha,hb⟩|⟨h,ha,hb⟩|⟨h,_⟩|⟨h,_⟩
 ·have na:i.A<4:=by omega
  simp only [h,show ((1:Int)==1)=true from rfl,cond_true];rw [d0t (x:=⟨rs,ps,0,0⟩) hfp,f5i];simp only;cases hp:X7 ps i.B with
  | some j =>
   have hj:=b8D hp;simp only [b57,cond_true,f5j hj];simp only [atI,t9 hj,f5i,M4 he.len ha];rw [u7 na,e8K he.len (by omega)];unfold c4U;rw [hw];cases (regs.set i.A.toNat ps[j].d9).all I1<;>rfl
  | none =>
   obtain ⟨b,hb1,hb2,_⟩:=a4K hl hb;obtain ⟨v,hv1,hv2⟩:=e1x (x:=⟨rs,ps,0,0⟩) hfr i.B;simp only [b7a,cond_false,hv1,hv2,f5i,hb1,hb2,u7 n1];cases hs:J3 rs i.B
   ·simp only [f5J,cond_true,cond_false,f5i,l9.go];unfold b5A b5Q;rw [hb1,f5i,M4 he.len ha,f5i,u7 na,d2T he.len (by simp;omega),hw];cases (regs.set i.A.toNat b.d9).all I1<;>rfl
   ·simp only [f5n,cond_true,cond_false,f5i,l9.go];unfold b5A b5Q;rw [hb1,f5i,M4 he.len ha,f5i,u7 na,d2T he.len (by omega),hw];cases (regs.set i.A.toNat b.d9).all I1<;>rfl
 ·have nb:i.B<4:=by omega
  simp only [h,show ((2:Int)==1)=false from rfl,show ((2:Int)==2)=true from rfl,cond_true,cond_false];rw [d0t (x:=⟨rs,ps,0,0⟩) hfp,f5i];simp only;cases hp:X7 ps i.A with
  | some j =>
   have hj:=b8D hp;simp only [b57,cond_true,f5j hj];simp only [atI,t9 hj,f5i,M4 he.len hb,f5I];rw [u7 nb];simp only [f5i,l9.go];exact fin _ _ he.len
  | none =>
   simp only [b7a,cond_false,f5i,M4 he.len hb];rw [u7 nb,u7 n2];simp only [f5i,l9.go];exact fin _ _ he.len
 ·have na:i.A<4:=by omega
  simp only [h,show ((3:Int)==1)=false from rfl,show ((3:Int)==2)=false from rfl,show ((3:Int)==3)=true from rfl,cond_true,cond_false,M4 he.len ha,f5i];rw [u7 na];simp only [f5i,l9.go];exact fin _ _ (hset _ _)
 ·have na:i.A<4:=by omega
  have nb:i.B<4:=by omega
  simp only [h,show ((4:Int)==1)=false from rfl,show ((4:Int)==2)=false from rfl,show ((4:Int)==3)=false from rfl,show ((4:Int)==4)=true from rfl,cond_true,cond_false,M4 he.len ha,M4 he.len hb,f5i,(b5E (a4R he.len he.rng ha) (a4R he.len he.rng hb)).1,u7 na,u7 nb,l9.go];exact fin _ _ (hset _ _)
 ·have na:i.A<4:=by omega
  have nb:i.B<4:=by omega
  simp only [h,show ((5:Int)==1)=false from rfl,show ((5:Int)==2)=false from rfl,show ((5:Int)==3)=false from rfl,show ((5:Int)==4)=false from rfl,show ((5:Int)==5)=true from rfl,cond_true,cond_false,M4 he.len ha,M4 he.len hb,f5i,(b5E (a4R he.len he.rng ha) (a4R he.len he.rng hb)).2,u7 na,u7 nb,l9.go];exact fin _ _ (hset _ _)
 ·exact absurd h h6
 ·exact absurd h h7
theorem e7S(hl:C4 l=true){prog:List n8}(hp:E2 prog=true)(R:List r9)(P:List p6):∀(f k:Nat) (regs:List Int) (rs:List r9) (ps:List p6),EI regs rs ps k->prog.length<k+f->k<=prog.length+10->
  ((p8 (fun s:(List Int)×(List r9)×(List p6)×(List r9)×(List p6)×Int=>a2V l prog s.1 s.2.1 s.2.2.1 s.2.2.2.1 s.2.2.2.2.1 s.2.2.2.2.2) (regs,R,P,rs,ps,(k:Int))).bind fun x=>x.go (fun r=>some r) fun s=>b3r s.1 s.2.1 s.2.2.1 s.2.2.2.1 s.2.2.2.2)=some (V9 l prog f k regs rs ps):=by
 obtain ⟨hlen,hins⟩:=c4B hp;have stop:∀(k:Nat) (regs:List Int) (rs:List r9) (ps:List p6),EI regs rs ps k->prog.length<=k->k<=prog.length+10->((p8 (fun s:(List Int)×(List r9)×(List p6)×(List r9)×(List p6)×Int=>a2V l prog s.1 s.2.1 s.2.2.1 s.2.2.2.1 s.2.2.2.2.1 s.2.2.2.2.2) (regs,R,P,rs,ps,(k:Int))).bind fun x=>x.go (fun r=>some r) fun s=>b3r s.1 s.2.1 s.2.2.1 s.2.2.2.1 s.2.2.2.2)=some ⟨rs,ps,J7 regs 0,0⟩:=by
  intro k regs rs ps he h1 h2;have h3:=he.rl;have h4:=he.pl;rw [C6 (b:=(R,P,regs,rs,ps))]
  ·simp only [f5i,l9.go];unfold b3r;rw [b4b (by omega),f5i,d8S (by omega),f5i,M4 he.len (a:=0) (by omega),f5i,u7 (by decide)]
  ·unfold a2V;rw [show decide ((k:Int)<(prog.length:Int))=false from by simp;omega];rfl
 intro f;induction f with
 | zero =>
  intro k regs rs ps he hf hk;exact stop k regs rs ps he (by omega) hk
 | succ f ih =>
  intro k regs rs ps he hf hk;by_cases hlt:k<prog.length
  ·have hi:=hins _ (f5l hlt);unfold V9;rw [f5j hlt];simp only;by_cases h6:prog[k].a8=6
   ·obtain ⟨ha,hb,hn⟩:(0<=prog[k].A/\prog[k].A<=3)/\(0<=prog[k].B/\prog[k].B<=3)/\1<=prog[k].N/\prog[k].N<=10:=by
     rcases a9j hi with ⟨h,_⟩|⟨h,_⟩|⟨h,_⟩|⟨h,_⟩|⟨h,_⟩|⟨h,x⟩|⟨h,_⟩
     all_goals first|(exact x)|(exfalso;omega)
    have hrl:=he.rl;have hb1:a2V l prog regs R P rs ps (k:Int)=some (.nxt (regs,R,P,rs,ps,((bif decide (J7 regs prog[k].A<J7 regs prog[k].B) then k+prog[k].N.toNat+1 else k+1:Nat):Int))):=by
     have na:prog[k].A<4:=by omega
     have nb:prog[k].B<4:=by omega
     unfold a2V;rw [x8 _ k hlt,t9 hlt];simp only [cond_true,f5i,h6,show ((6:Int)==1)=false from rfl,show ((6:Int)==2)=false from rfl,show ((6:Int)==3)=false from rfl,show ((6:Int)==4)=false from rfl,show ((6:Int)==5)=false from rfl,show ((6:Int)==6)=true from rfl,cond_false,M4 he.len ha,M4 he.len hb,u7 na,u7 nb];cases decide (J7 regs prog[k].A<J7 regs prog[k].B)
     ·simp only [cond_false,f5i,l9.go];unfold b0v b35;rw [c1N he.len (by omega),he.rng,C2 (by omega) (by omega)];rfl
     ·simp only [cond_true,f5i,l9.go];unfold b0v b35;rw [c1N he.len (by omega),he.rng,C2 (n:=(k:Int)+prog[k].N) (by omega) (by omega),C2 (by omega) (by omega),show ((k+prog[k].N.toNat+1:Nat):Int)=(k:Int)+prog[k].N+1 from by omega];rfl
    rw [E3 hb1,h6];simp only [show ((6:Int)==6)=true from rfl,cond_true];refine ih _ _ _ _ ⟨he.len,he.rng,?_,?_⟩ ?_ ?_;all_goals
     have h1:=he.rl;have h2:=he.pl;cases decide (J7 regs prog[k].A<J7 regs prog[k].B)<;>simp only [cond_true,cond_false]<;>omega
   by_cases h7:prog[k].a8=7
   ·have hrl:=he.rl;have hb1:a2V l prog regs R P rs ps (k:Int)=some (.ret ⟨rs,[],0,1⟩):=by
     unfold a2V;rw [x8 _ k hlt,t9 hlt];simp only [cond_true,f5i,h7,show ((7:Int)==1)=false from rfl,show ((7:Int)==2)=false from rfl,show ((7:Int)==3)=false from rfl,show ((7:Int)==4)=false from rfl,show ((7:Int)==5)=false from rfl,show ((7:Int)==6)=false from rfl,show ((7:Int)==7)=true from rfl,cond_false];rw [b4b (by omega)];rfl
    rw [V8 hb1,h7];rfl
   ·have hb1:=f0w hl he (by omega) hlt hlen R P hi h6 h7;rw [show (prog[k].a8==6)=false from by simpa using h6,show (prog[k].a8==7)=false from by simpa using h7,cond_false,cond_false];cases hall:(E8 l prog[k] regs rs ps).1.all I1
    ·rw [hall,cond_false] at hb1;rw [V8 hb1];rfl
    ·rw [hall,cond_true] at hb1;rw [E3 hb1,cond_true];exact ih _ _ _ _ (he.next hall) (by omega) (by omega)
  ·rw [d3f l (by omega)];exact stop k regs rs ps he (by omega) hk
theorem d0l{l:List m9}{prog:List n8}(hl:s9 l)(hp:s9 prog):b3N l prog=some (B8 l prog):=by
 unfold b3N B8;rw [b4g hl,f5i,b8y hp,f5i];cases hb:C4 l
 ·rfl
 cases ho:E2 prog
 ·rfl
 rw [f5n,cond_false,cond_false];exact e7S hb ho [] [] (prog.length+1) 0 [0,0,0,0] [] [] ei0 (by omega) (by omega)
end
theorem b6X{l:List m4}(hl:l.length<=40)(he:l.all z5=true){k:Nat}(hk:k<=l.length):(told l (o8 l).2 k).length<=40:=by
 obtain ⟨_,hlen,hc⟩:=P3 hl he l.length (f5y _);rw [f5C] at hlen hc;have h1:=b75 hlen k hk;have h2:=c2g ((o8 l).2.take k) 0;rw [f5G] at h2;omega
theorem d7a{l:List m4}(h:A3 88 a1a l):b6J l=some (z8 l):=by
 unfold b6J z8;rw [c8a h,f5i];cases hok:G0 l
 ·rfl
 have hf:s9 l:=h.fits (by decide);obtain ⟨hl,he⟩:=X0 hok;obtain ⟨_,hlen,hc⟩:=P3 hl he l.length (f5y _);rw [f5C] at hlen hc;rw [f5n,cond_false,cond_true,b90,f5i];have hloop:=W4 (body:=fun s:(List n7)×(List m9)×Int×Int×List q8=>a7H l s.1 s.2.1 s.2.2.1 s.2.2.2.1 s.2.2.2.2) (fun k=>(told l (o8 l).2 k,(o8 (l.take k)).1.g7,(k:Int),(o8 (l.take k)).1.At,(o8 (l.take k)).1.i8)) l.length (by
  intro k hk;have hk2:k<(o8 l).2.length:=by omega
  have hs:=b6X hl he (k:=k) (by omega);obtain ⟨h1,h2,h3⟩:=P3 hl he k (by omega);have n1:((told l (o8 l).2 k).length+1)*16<=140737488355328:=by omega
  have hcode:=a9S hl he hk;rw [f5j hk2] at hcode;have hcode:=f6f hcode;show a7H l (told l (o8 l).2 k) (o8 (l.take k)).1.g7 (k:Int) (o8 (l.take k)).1.At (o8 (l.take k)).1.i8=some (.nxt (told l (o8 l).2 k++b1W l (o8 l).2 k,(o8 (l.take (k+1))).1.g7,((k+1:Nat):Int),(o8 (l.take (k+1))).1.At,(o8 (l.take (k+1))).1.i8))
  rw [b1V hk hk2,a0L hk,hcode];unfold a7H c4X;rw [x8 _ k hk,t9 hk,E9 hf hk];simp only [cond_true,f5i];rw [show (⟨(o8 (l.take k)).1.At,(o8 (l.take k)).1.g7,(o8 (l.take k)).1.i8⟩:u0)=(o8 (l.take k)).1 from rfl,b5H h1 (by omega) (List.all_eq_true.1 he _ (f5l hk)) (h.2 _ (f5l hk)),f5i,u7 n1];cases (apply (o8 (l.take k)).1 l[k]).2==0
  ·simp only [cond_false,f5i,l9.go,f5S];rfl
  ·rfl)
 rw [f5T,f5C,show told l (o8 l).2 0=[] from rfl,show ((0:Nat):Int)=0 from rfl] at hloop;rw [show p8 (fun s:(List n7)×(List m9)×Int×Int×List q8=>a7H l s.1 s.2.1 s.2.2.1 s.2.2.2.1 s.2.2.2.2) (([]:List n7),P4.g7,0,P4.At,P4.i8)=_ from hloop,C6 (b:=told l (o8 l).2 l.length)]
 ·rfl
 ·unfold a7H;rw [z9];rfl
theorem d5L(l:List m4):s9 (z8 l):=by
 unfold z8;cases hok:G0 l
 ·simp [s9]
 ·obtain ⟨hl,he⟩:=X0 hok;have:=b6X hl he (f5y _);show s9 (told l (o8 l).2 l.length)
  unfold s9;omega
def G7(l:List m9)(p:List n8):List m9×Int×Int:=bif (B8 l p).Code==3 then ([],0,3) else (a0S l (B8 l p).b6,(B8 l p).d9,(B8 l p).Code)
theorem b76{l:List m9}{p:List n8}(hl:C4 l=true)(hp:s9 p):Ran (B8 l p):=by
 obtain ⟨r,h1,h2,_⟩:=e25 (a1P hl) hp;rw [c0P (a1P hl) hp] at h1;injection h1 with h1;rw [h1];exact h2 hl
theorem Ran.f{r:n6}(h:Ran r):a1F r:=by
 have h1:=h.rlen;have h2:=h.plen;exact ⟨⟨by omega,fun _ _=>trivial⟩,⟨by omega,fun _ _=>trivial⟩,trivial⟩
theorem Ran.puts{r:n6}(h:Ran r):∀p∈r.b6,a0u p:=by
 have:=h.ok;rw [b1k] at this;simp only [f5m] at this;exact (a9T.1 this.2.2.2.2.2).1
theorem d3B{l:List m9}{p:List n8}(hl:C4 l=false):(B8 l p).Code=3:=by
 unfold B8;rw [hl];rfl
theorem d2d{l:List m9}(h:C4 l=true):b2p l=some l:=by
 have:=a6b h;unfold b2p;rw [u7 (by simp;omega)];rfl
theorem e7q{l:List m9}{p:List n8}(hl:s9 l)(hp:s9 p):b9n l p=some (G7 l p):=by
 unfold b9n G7;rw [c0P hl hp,f5i];cases hc:(B8 l p).Code==3
 ·have hb:C4 l=true:=by
   cases hb:C4 l
   ·rw [d3B hb] at hc;cases hc
   ·rfl
  have hr:=b76 hb hp;simp only [cond_false,d2d hb,f5i,d1Z hb hr.f hr.puts]
 ·rfl
theorem e9o{l:List m9}{p:List n8}(hl:s9 l)(hp:s9 p):b7j l p=some (G7 l p):=by
 unfold b7j G7;rw [d0l hl hp,f5i];cases hc:(B8 l p).Code==3
 ·have hb:C4 l=true:=by
   cases hb:C4 l
   ·rw [d3B hb] at hc;cases hc
   ·rfl
  have hr:=b76 hb hp;simp only [cond_false,f5i,c6g hb hr.f hr.ok]
 ·rfl
theorem c2Q{l:List m9}{p:List n8}(hl:C4 l=true)(hp:s9 p)(h:((G7 l p).2.2==3)=false):C4 (G7 l p).1=true:=by
 have hr:=b76 hl hp;unfold G7 at h ⊢;cases hc:(B8 l p).Code==3
 ·rw [cond_false];exact b8x hl hr.puts
 ·rw [hc,cond_true] at h;cases h
def a1T:List (List n8)->List m9->List Int->List m9×List Int
 | [],b,vs=>(b,vs)
 | p::ps,b,vs=>bif (G7 b p).2.2==3 then ([],[]) else a1T ps (G7 b p).1 (vs++[(G7 b p).2.1])
def E7(l:List m9)(progs:List (List n8)):List m9×List Int:=bif C4 l&&decide (progs.length<=100) then a1T progs l [] else ([],[])
theorem e7x{progs:List (List n8)}(hp:∀p∈progs,s9 p)(hn:progs.length<=100):∀(m k:Nat) (b:List m9) (vs:List Int),k+m=progs.length->C4 b=true->vs.length=k->
  ((p8 (fun s:(List Int)×(List m9)×Int=>b0E progs s.1 s.2.1 s.2.2) (vs,b,(k:Int))).bind fun x=>x.go (fun r=>some r) fun s=>c4m s.1 s.2)=some (a1T (progs.drop k) b vs):=by
 intro m;induction m with
 | zero =>
  intro k b vs hk hb hv;have:k=progs.length:=by omega
  subst this;rw [f7p,C6 (b:=(vs,b))]
  ·rfl
  ·unfold b0E;simp only [z9];rfl
 | succ m ih =>
  intro k b vs hk hb hv;have hlt:k<progs.length:=by omega
  have hpk:=hp _ (f5l hlt);have n1:(vs.length+1)*8<=140737488355328:=by omega
  have hw:m8 ((k:Int)+1)=((k+1:Nat):Int):=by rw [C2 (by omega) (by omega)];rfl
  have hb1:b0E progs vs b (k:Int)=some (bif (G7 b progs[k]).2.2==3 then .ret ([],[]) else .nxt (vs++[(G7 b progs[k]).2.1],(G7 b progs[k]).1,((k+1:Nat):Int))):=by
   unfold b0E;simp only [x8 _ k hlt,t9 hlt,cond_true,f5i,e7q (a1P hb) hpk,u7 n1,hw];cases (G7 b progs[k]).2.2==3<;>rfl
  rw [f5z hlt];unfold a1T;cases hc:(G7 b progs[k]).2.2==3
  ·rw [hc,cond_false] at hb1;rw [E3 hb1,cond_false];exact ih (k+1) _ _ (by omega) (c2Q hb hpk hc) (by simp;omega)
  ·rw [hc,cond_true] at hb1;rw [V8 hb1];rfl
theorem f0l{l:List m9}{progs:List (List n8)}(hl:s9 l)(hp:∀p∈progs,s9 p):b7S l progs=some (E7 l progs):=by
 unfold b7S E7;rw [b72 hl,f5i];cases hb:C4 l
 ·rfl
 rw [f5n,cond_false,f5v];by_cases hn:progs.length<=100
 ·have h1:¬((progs.length:Int)>100):=by omega
  rw [decide_eq_false h1,cond_false,decide_eq_true hn,cond_true,d2d hb,f5i];have:=e7x hp hn progs.length 0 l [] (by omega) hb rfl;rwa [f6q] at this
 ·have h1:(progs.length:Int)>100:=by omega
  rw [decide_eq_true h1,decide_eq_false hn];rfl
theorem e2v{l:List Int}(h:l.length<=1000):b6M l=some l:=by
 unfold b6M;cases hl:((l.length:Int)==0)
 ·rw [cond_false,u7 (by constructor<;>omega),u7 (by simp)]
 ·simp only [beq_iff_eq] at hl;have:l=[]:=f5t (by omega);rw [this];rfl
theorem e5c{progs:List (List n8)}(hp:∀p∈progs,s9 p)(hn:progs.length<=100):∀(m k:Nat) (b:List m9) (vs:List Int),k+m=progs.length->C4 b=true->vs.length=k->
  ((p8 (fun s:(List Int)×Int×List m9=>b0M progs s.1 s.2.1 s.2.2) (vs,(k:Int),b)).bind fun x=>x.go (fun r=>some r) fun s=>b6E s.1 s.2)=some (a1T (progs.drop k) b vs):=by
 intro m;induction m with
 | zero =>
  intro k b vs hk hb hv;have:k=progs.length:=by omega
  subst this;rw [f7p,C6 (b:=(vs,b))]
  ·simp only [f5i,l9.go];unfold b6E;rw [e2v (by omega)];rfl
  ·unfold b0M;simp only [z9];rfl
 | succ m ih =>
  intro k b vs hk hb hv;have hlt:k<progs.length:=by omega
  have hpk:=hp _ (f5l hlt);have n1:(vs.length+1)*8<=140737488355328:=by omega
  have hw:m8 ((k:Int)+1)=((k+1:Nat):Int):=by rw [C2 (by omega) (by omega)];rfl
  have hb1:b0M progs vs (k:Int) b=some (bif (G7 b progs[k]).2.2==3 then .ret ([],[]) else .nxt (vs++[(G7 b progs[k]).2.1],((k+1:Nat):Int),(G7 b progs[k]).1)):=by
   unfold b0M;simp only [x8 _ k hlt,t9 hlt,cond_true,f5i,e9o (a1P hb) hpk,u7 n1,hw];cases (G7 b progs[k]).2.2==3<;>rfl
  rw [f5z hlt];unfold a1T;cases hc:(G7 b progs[k]).2.2==3
  ·rw [hc,cond_false] at hb1;rw [E3 hb1,cond_false];exact ih (k+1) _ _ (by omega) (c2Q hb hpk hc) (by simp;omega)
  ·rw [hc,cond_true] at hb1;rw [V8 hb1];rfl
theorem e99{l:List m9}{progs:List (List n8)}(hl:s9 l)(hp:∀p∈progs,s9 p):b7k l progs=some (E7 l progs):=by
 unfold b7k E7;rw [b4g hl,f5i];cases hb:C4 l
 ·rfl
 rw [f5n,cond_false,f5v];by_cases hn:progs.length<=100
 ·have h1:¬((progs.length:Int)>100):=by omega
  rw [decide_eq_false h1,cond_false,decide_eq_true hn,cond_true,c06 (by rw [a6b hb];decide),f5i];have:=e5c hp hn progs.length 0 l [] (by omega) hb rfl;rwa [f6q] at this
 ·have h1:(progs.length:Int)>100:=by omega
  rw [decide_eq_true h1,decide_eq_false hn];rfl
def b4r(w:m5)(q:n7):Option x6:=w.d7.find? fun a=>(([a.a0.b9,a.a0.Seq]:List Int)==[q.b9,q.Seq])
def Q9(w:m5)(q:n7):List n8×Bool:=match b4r w q with
 | some a=>(a.i6,true)
 | none=>([],false)
theorem e5G{l:List n8}(h:l.length*32<=140737488351232):a8l l=some l:=by
 unfold a8l;cases hl:((l.length:Int)==0)
 ·rw [cond_false,u7 (by constructor<;>omega),u7 (by simp)]
 ·simp only [beq_iff_eq] at hl;have:l=[]:=f5t (by omega);rw [this];rfl
theorem c1V{w:m5}(h:R7 w){a:x6}(ha:a∈w.d7):a.i6.length*32<=140737488351232:=(h.2.2.1.2 a ha).2.1
theorem f0H{w:m5}(h:R7 w)(q:n7):b8O w q=some (Q9 w q):=by
 have hf:s9 w.d7:=h.2.2.1.fits (by decide);unfold b8O Q9 b4r;rw [b3G w.d7 hf (fun a=>(([a.a0.b9,a.a0.Seq]:List Int)==[q.b9,q.Seq])) (fun a=>(a.i6,true)) ()]
 ·cases w.d7.find? (fun a=>(([a.a0.b9,a.a0.Seq]:List Int)==[q.b9,q.Seq]))<;>rfl
 ·intro k hk;have:=c1V h (f5l hk);unfold b7A;rw [x8 _ k hk,t9 hk];simp only [cond_true,f5i];rw [u7 (by simp;omega)];cases (([w.d7[k].a0.b9,w.d7[k].a0.Seq]:List Int)==[q.b9,q.Seq])<;>rfl
 ·unfold b7A;rw [z9];rfl
theorem e8l{w:m5}(h:R7 w)(q:n7):b8F w q=some (Q9 w q):=by
 have hf:s9 w.d7:=h.2.2.1.fits (by decide);unfold b8F Q9 b4r;rw [b3G w.d7 hf (fun a=>(([a.a0.b9,a.a0.Seq]:List Int)==[q.b9,q.Seq])) (fun a=>(a.i6,true)) ()]
 ·cases w.d7.find? (fun a=>(([a.a0.b9,a.a0.Seq]:List Int)==[q.b9,q.Seq]))<;>rfl
 ·intro k hk;have:=c1V h (f5l hk);unfold b5B;rw [x8 _ k hk,t9 hk];simp only [cond_true,f5i,e5G this];cases (([w.d7[k].a0.b9,w.d7[k].a0.Seq]:List Int)==[q.b9,q.Seq])<;>rfl
 ·unfold b5B;rw [z9];rfl
theorem f2p{w:m5}(h:R7 w)(q:n7):s9 (Q9 w q).1:=by
 unfold Q9 b4r;cases hf:w.d7.find? (fun a=>(([a.a0.b9,a.a0.Seq]:List Int)==[q.b9,q.Seq])) with
 | none=>simp [s9]
 | some a =>
  have:=c1V h (f7u hf);show a.i6.length<=_
  omega
def a1Y(w:m5):List n7->List (List n8)->Option (List (List n8))
 | [],o=>some o
 | q::qs,o=>bif (Q9 w q).2 then a1Y w qs (o++[(Q9 w q).1]) else none
theorem c5h{w:m5}(h:R7 w):∀{qs:List n7} {o ps:List (List n8)},a1Y w qs o=some ps->(∀p∈o,s9 p)->∀p∈ps,s9 p
 | [],o,ps,hs,ho=>by
  injection hs with hs;subst hs;exact ho
 | q::qs,o,ps,hs,ho=>by
  unfold a1Y at hs;cases hq:(Q9 w q).2
  ·rw [hq] at hs;cases hs
  ·rw [hq,cond_true] at hs;refine c5h h hs fun p hp => ?_
   rcases List.mem_append.1 hp with hp|hp
   ·exact ho p hp
   ·rw [f5p.1 hp];exact f2p h q
theorem e1e{w:m5}(h:R7 w){l:List n7}(hl:l.length<=1000):∀(m k:Nat) (o:List (List n8)),k+m=l.length->o.length=k->
  ((p8 (fun s:(List (List n8))×Int=>a56 w l s.1 s.2) (o,(k:Int))).bind fun x=>x.go (fun r=>some r) fun s=>c2F s)=some (match a1Y w (l.drop k) o with|some ps=>(ps,true)|none=>([],false)):=by
 intro m;induction m with
 | zero =>
  intro k o hk ho;have:k=l.length:=by omega
  subst this;rw [f7p,C6 (b:=o)]
  ·rfl
  ·unfold a56;simp only [z9];rfl
 | succ m ih =>
  intro k o hk ho;have hlt:k<l.length:=by omega
  have n1:(o.length+1)*24<=140737488355328:=by omega
  have hw:m8 ((k:Int)+1)=((k+1:Nat):Int):=by rw [C2 (by omega) (by omega)];rfl
  have hb1:a56 w l o (k:Int)=some (bif (Q9 w l[k]).2 then .nxt (o++[(Q9 w l[k]).1],((k+1:Nat):Int)) else .ret ([],false)):=by
   unfold a56;simp only [x8 _ k hlt,t9 hlt,cond_true,f5i,f0H h,u7 n1,hw];cases (Q9 w l[k]).2<;>rfl
  rw [f5z hlt];unfold a1Y;cases hc:(Q9 w l[k]).2
  ·rw [hc,cond_false] at hb1;rw [V8 hb1];rfl
  ·rw [hc,cond_true] at hb1;rw [E3 hb1,cond_true];exact ih (k+1) _ (by omega) (by simp;omega)
def a40(a b:List m9):Bool:=(a.length==b.length)&&(f5q a.length).all fun k=>match a[k]?,b[k]? with
 | some x,some y=>(([x.j4,x.d9]:List Int)==[y.j4,y.d9])
 | _,_=>false
theorem f4P{a b:List m9}(h:s9 a):b6v a b=some (a40 a b):=by
 unfold b6v a40;rw [b0l];cases hl:a.length==b.length
 ·rfl
 have hl:a.length=b.length:=by simpa using hl
 rw [f5n,cond_false,f5v,a2t a h (fun k=>match a[k]?,b[k]? with|some x,some y=>(([x.j4,x.d9]:List Int)==[y.j4,y.d9])|_,_=>false) false ()]
 ·cases (f5q a.length).all _<;>rfl
 ·intro k hk _;unfold b5h;rw [x8 _ k hk,t9 hk,t9 (hl▸hk),f5j hk,f5j (hl▸hk)];simp only [cond_true,f5i];cases (([a[k].j4,a[k].d9]:List Int)==[(b[k]'(hl▸hk)).j4,(b[k]'(hl▸hk)).d9])<;>rfl
 ·unfold b5h;rw [z9];rfl
theorem d8a{a b:List m9}(h:s9 a):b7E a b=some (a40 a b):=by
 unfold b7E c3X a40;rw [b0l];cases hl:a.length==b.length
 ·rfl
 have hl:a.length=b.length:=by simpa using hl
 rw [f5n,cond_false,f5v,a2t a h (fun k=>match a[k]?,b[k]? with|some x,some y=>(([x.j4,x.d9]:List Int)==[y.j4,y.d9])|_,_=>false) false ()]
 ·cases (f5q a.length).all _<;>rfl
 ·intro k hk _;unfold b8N;rw [x8 _ k hk,t9 hk,t9 (hl▸hk),f5j hk,f5j (hl▸hk)];simp only [cond_true,f5i];cases (([a[k].j4,a[k].d9]:List Int)==[(b[k]'(hl▸hk)).j4,(b[k]'(hl▸hk)).d9])<;>rfl
 ·unfold b8N;rw [z9];rfl
theorem f1D{s:u0}{e:m4}(h:e.i7=true):(apply s e).2=5:=by
 unfold apply;rw [h];rfl
theorem c63{l:List m4}(hl:l.length<=40)(he:l.all z5=true):∀k,k<=l.length->∀q∈told l (o8 l).2 k,∃e∈l,D2 q e=true
 | 0,_,q,hq=>by cases hq
 | k+1,hk,q,hq=>by
  have h1:k<l.length:=by omega
  have hlen:=(P3 hl he l.length (f5y _)).2.1;rw [f5C] at hlen;have h2:k<(o8 l).2.length:=by omega
  unfold told at hq;rcases List.mem_append.1 hq with hq|hq
  ·exact c63 hl he k (by omega) q hq
  ·rw [b1V h1 h2] at hq;cases hc:(o8 l).2[k]==0
   ·rw [hc] at hq;cases hq
   ·rw [hc,cond_true,f5p] at hq;refine ⟨l[k],f5l h1,?_⟩;have hco:=a9S hl he h1;rw [f5j h2] at hco;have hco:=f6f hco;rw [hq];unfold D2;cases hn:l[k].i7
    ·simp
    ·rw [f1D hn] at hco;rw [hco] at hc;cases hc
theorem d8z{l:List m4}{q:n7}(hq:q∈z8 l):∃i,∃h:i<l.length,l.findIdx? (D2 q)=some i:=by
 unfold z8 at hq;cases hok:G0 l
 ·rw [hok] at hq;cases hq
 ·rw [hok,cond_true] at hq;obtain ⟨hl,he⟩:=X0 hok;obtain ⟨e,h1,h2⟩:=c63 hl he _ (f5y _) q hq;cases hf:l.findIdx? (D2 q) with
  | none =>
   have:=(f7t.1 hf) e h1;rw [h2] at this;cases this
  | some i=>exact ⟨i,(f6a.1 hf).1,rfl⟩
def Q3(l:List m4)(q:n7):Int:=match l.findIdx? (D2 q) with
 | some k=>(match l[k]? with|some e=>e.b7.d9|none=>0)
 | none=>0
theorem e86{l:List m4}(h:s9 l)(q:n7):a9x l q=some (Q3 l q):=c7m h q
def b8Q(l:List m4)(done:List n7)(vals:List Int):Bool:=(f5q done.length).all fun i=>match vals[i]?,done[i]? with
 | some v,some q=>v==Q3 l q
 | _,_=>false
def V3:List m9:=f5k 4 ⟨0,0⟩
def b6Y(l:List m4)(ps:List (List n8)):Bool :=
 ((E7 V3 ps).2.length==(z8 l).length)&&(a40 (E7 V3 ps).1 (o8 l).1.g7&&b8Q l (z8 l) (E7 V3 ps).2)
def a4Q(w:m5):Bool:=C9 w&&match a1Y w (z8 (u6 w)) [] with
 | some ps=>b6Y (u6 w) ps
 | none=>false
theorem b6P:C4 V3=true:=by decide
theorem d1J:∀{ps:List (List n8)} {b:List m9} {vs:List Int},C4 b=true->(∀p∈ps,s9 p)->s9 (a1T ps b vs).1
 | [],b,vs,hb,_=>a1P hb
 | p::ps,b,vs,hb,hp=>by
  unfold a1T;cases hc:(G7 b p).2.2==3
  ·rw [cond_false];exact d1J (c2Q hb (hp p (by simp)) hc) fun q hq=>hp q (by simp [hq])
  ·simp [s9]
theorem d09{ps:List (List n8)}(hp:∀p∈ps,s9 p):s9 (E7 V3 ps).1:=by
 unfold E7;cases (C4 V3&&decide (ps.length<=100))
 ·simp [s9]
 ·exact d1J b6P hp
theorem f4Q{w:m5}(h:R7 w){lg:List m4}{l:List n7}(hl:l.length<=1000):∀(m k:Nat) (o:List (List n8)),k+m=l.length->o.length=k->
  ((p8 (fun s:(List (List n8))×Int=>a55 w l s.1 s.2) (o,(k:Int))).bind fun x=>x.go (fun r=>some r) fun s=>b3I lg l s)=(match a1Y w (l.drop k) o with|some ps=>b3I lg l ps|none=>some false):=by
 intro m;induction m with
 | zero =>
  intro k o hk ho;have:k=l.length:=by omega
  subst this;rw [f7p,C6 (b:=o)]
  ·rfl
  ·unfold a55;simp only [z9];rfl
 | succ m ih =>
  intro k o hk ho;have hlt:k<l.length:=by omega
  have n1:(o.length+1)*24<=140737488355328:=by omega
  have hw:m8 ((k:Int)+1)=((k+1:Nat):Int):=by rw [C2 (by omega) (by omega)];rfl
  have hb1:a55 w l o (k:Int)=some (bif (Q9 w l[k]).2 then .nxt (o++[(Q9 w l[k]).1],((k+1:Nat):Int)) else .ret false):=by
   unfold a55;simp only [x8 _ k hlt,t9 hlt,cond_true,f5i,e8l h,u7 n1,hw];cases (Q9 w l[k]).2<;>rfl
  rw [f5z hlt];unfold a1Y;cases hc:(Q9 w l[k]).2
  ·rw [hc,cond_false] at hb1;rw [V8 hb1];rfl
  ·rw [hc,cond_true] at hb1;rw [E3 hb1,cond_true];exact ih (k+1) _ (by omega) (by simp;omega)
theorem e5W:b31=some V3:=rfl
theorem d9Y:b3C=some V3:=rfl
theorem c83{w:m5}(h:R7 w)(hw:C9 w=true):A3 88 F3 (u6 w)/\G0 (u6 w)=true/\b1l w=some (u6 w)/\b0O w=some (u6 w):=by
 obtain ⟨h0,hlo,hok⟩:=d1c h hw;exact ⟨hlo,hok,d0Y h h0,c9P h h0⟩
theorem e4w{w:m5}(h:R7 w):b5M w=some (a4Q w):=by
 unfold b5M a4Q;rw [b6o h,f5i];cases hw:C9 w
 ·rfl
 obtain ⟨hlo,hok,hs,hi⟩:=c83 h hw;obtain ⟨hl,he⟩:=X0 hok;have hf:=okEntries.f hlo;have hfl:s9 (u6 w):=hlo.fits (by decide);have hd:(z8 (u6 w)).length<=40:=by
  unfold z8;rw [hok];exact b6X hl he (f5y _)
 have hdf:s9 (z8 (u6 w)):=d5L _;simp only [f5n,cond_false,hs,f5i,d7a hf,f5v];have hpg:=e1e h (l:=z8 (u6 w)) (by omega) (z8 (u6 w)).length 0 [] (by omega) rfl;rw [f6q] at hpg;unfold c48;rw [show p8 (fun s:(List (List n8))×Int=>a56 w (z8 (u6 w)) s.1 s.2) (([]:List (List n8)),0)=p8 (fun s:(List (List n8))×Int=>a56 w (z8 (u6 w)) s.1 s.2) (([]:List (List n8)),((0:Nat):Int)) from rfl,hpg,f5i];cases hps:a1Y w (z8 (u6 w)) [] with
 | none=>rfl
 | some ps =>
  have hpf:=c5h h hps (by simp);simp only [f5n,cond_false,e5W,f5i,f0l (a1P b6P) hpf,b0l];unfold b6Y;cases hle:(E7 V3 ps).2.length==(z8 (u6 w)).length
  ·rfl
  have hle:(E7 V3 ps).2.length=(z8 (u6 w)).length:=by simpa using hle
  simp only [f5n,cond_false,c9x hf hok,f5i,f4P (d09 hpf),f5v];cases a40 (E7 V3 ps).1 (o8 (u6 w)).1.g7
  ·rfl
  simp only [f5n,cond_false,f5v];unfold b8Q;rw [a2t (z8 (u6 w)) hdf (fun i=>match (E7 V3 ps).2[i]?,(z8 (u6 w))[i]? with|some v,some q=>v==Q3 (u6 w) q|_,_=>false) false ()]
  ·cases (f5q (z8 (u6 w)).length).all _<;>rfl
  ·intro k hk _;unfold b9w;rw [x8 _ k hk,t9 hk,t9 (hle▸hk),f5j hk,f5j (hle▸hk)];simp only [cond_true,f5i,e86 hfl];rw [bne];cases ((E7 V3 ps).2[k]'(hle▸hk))==Q3 (u6 w) (z8 (u6 w))[k]<;>rfl
  ·unfold b9w;rw [z9];rfl
theorem e3m{w:m5}(h:R7 w):b5Z w=some (a4Q w):=by
 unfold b5Z a4Q;rw [b1Y h,f5i];cases hw:C9 w
 ·rfl
 obtain ⟨hlo,hok,hs,hi⟩:=c83 h hw;obtain ⟨hl,he⟩:=X0 hok;have hf:=okEntries.f hlo;have hfl:s9 (u6 w):=hlo.fits (by decide);have hd:(z8 (u6 w)).length<=40:=by
  unfold z8;rw [hok];exact b6X hl he (f5y _)
 have hdf:s9 (z8 (u6 w)):=d5L _;simp only [f5n,cond_false,hi,f5i,d6Y hf,f5v];have hpg:=f4Q h (lg:=u6 w) (l:=z8 (u6 w)) (by omega) (z8 (u6 w)).length 0 [] (by omega) rfl;rw [f6q] at hpg;rw [show p8 (fun s:(List (List n8))×Int=>a55 w (z8 (u6 w)) s.1 s.2) ([],0)=p8 (fun s:(List (List n8))×Int=>a55 w (z8 (u6 w)) s.1 s.2) ([],((0:Nat):Int)) from rfl,hpg];cases hps:a1Y w (z8 (u6 w)) [] with
 | none=>rfl
 | some ps =>
  have hpf:=c5h h hps (by simp);simp only;unfold b3I;simp only [d9Y,f5i,e99 (a1P b6P) hpf,d2y hf,hok,cond_true,d8a (d09 hpf),b0l];unfold b6Y;cases a40 (E7 V3 ps).1 (o8 (u6 w)).1.g7
  ·simp
  cases hle:(E7 V3 ps).2.length==(z8 (u6 w)).length
  ·rfl
  have hle:(E7 V3 ps).2.length=(z8 (u6 w)).length:=by simpa using hle
  simp only [f5n,cond_false,f5v];unfold b8Q;rw [a2t (z8 (u6 w)) hdf (fun i=>match (E7 V3 ps).2[i]?,(z8 (u6 w))[i]? with|some v,some q=>v==Q3 (u6 w) q|_,_=>false) false ()]
  ·cases (f5q (z8 (u6 w)).length).all _<;>rfl
  ·intro k hk _;obtain ⟨i,hi,hfi⟩:=d8z (f5l hk);unfold b6t Q3;rw [x8 _ k hk,t9 hk,t9 (hle▸hk),f5j hk,f5j (hle▸hk)];simp only [cond_true,f5i,b13 hfl,hfi,t9 hi,f5j hi];rw [bne];cases ((E7 V3 ps).2[k]'(hle▸hk))==(u6 w)[i].b7.d9<;>rfl
  ·unfold b6t;rw [z9];rfl
def f5e(a b:m7):Bool := !(decide (a.a7>0)&&((a.a7==b.a7) && !Z3 a.i4 b.i4))
def other(a b:j6):Bool := !(decide (a.a7>0)&&(a.a7==b.a7))
theorem e6V(a b:n7):(([a.b9,a.Seq]:List Int)==[b.b9,b.Seq])=(H5 a==H5 b):=rfl
def a6L(l:List n5)(i:Nat):Bool:=match l[i]? with
 | some t=>(f5q i).all fun k=>match l[k]? with
  | some s => !(H5 s.a0==H5 t.a0)
  | none=>true
 | none=>true
theorem c9N{l:List n5}{i:Nat}(h:i<l.length):a6L l i = !((l.take i).any fun s=>H5 s.a0==H5 l[i].a0):=by
 unfold a6L;rw [f5j h];simp only;rw [f6P,List.all_eq_true,f6c,f5U];constructor
 ·intro hh s hs;obtain ⟨k,hk,rfl⟩:=f6g hs;rw [f5G] at hk;have:=hh k (by simp;omega);rw [f5j (by omega)] at this;simpa using this
 ·intro hh k hk;have hk:k<i:=by simpa using hk
  rw [f5j (show k<l.length by omega)];have:=hh l[k] (f6t.2 ⟨k,by omega,rfl⟩);simpa using this
def b8r(l:List n5):Bool:=(f5q l.length).all (a6L l)
theorem d8M{l:List n7}{y:n7}(h:(l.any fun x=>H5 y==H5 x)=false):a8e H5 l y=l++[y]:=by
 unfold a8e;rw [if_neg (by rw [h];simp)]
theorem e9Z{w:m5}(h:R7 w):b4m w=some (C9 w&&b8r w.Told):=by
 have hf:s9 w.Told:=h.2.2.2.fits (by decide);unfold b4m;rw [b1Y h,f5i];cases C9 w
 ·rfl
 rw [f5n,cond_false,f5v];have hc:=a4v (body:=fun s:(List n7)×Int=>b4X w s.1 s.2) (fun k=>((w.Told.take k).map (·.a0),(k:Int))) w.Told.length (a6L w.Told) (fun _=>false) () (by
  intro k hk _;unfold b4X;simp only [x8 _ k hk,cond_true,t9 hk,f5i,E9 hf hk];have he:(((w.Told.take k).map (·.a0)).any fun x=>H5 w.Told[k].a0==H5 x) = !a6L w.Told k:=by
   rw [c9N hk,f7w,List.any_map];congr 1
   funext s
   show (H5 w.Told[k].a0==H5 s.a0)=_
   rw [f6P,beq_iff_eq,beq_iff_eq];exact eq_comm
  rw [he];cases ho:a6L w.Told k
  ·rfl
  ·rw [ho] at he;rw [d8M he,f5N hk,f6v];rfl) (by
  intro _;unfold b4X;simp only [z9];rfl)
 rw [f5T,List.map_nil,show ((0:Nat):Int)=0 from rfl] at hc;unfold b8r;rcases hc with ⟨hc,hall⟩|⟨k,hk,ho,_,hc⟩
 ·rw [hc,show (f5q w.Told.length).all (a6L w.Told)=true from List.all_eq_true.2 fun k hk=>hall k (by simpa using hk)];rfl
 ·rw [hc,show (f5q w.Told.length).all (a6L w.Told)=false from f6Q.2 ⟨k,by simpa using hk,by rw [ho];simp⟩];rfl
theorem c0a{α:Type}{p q:α->Bool}(h:∀x,p x=true->q x=true):∀l:List α,(l.filter q).find? p=l.find? p
 | []=>rfl
 | x::l=>by
  cases hq:q x with
  | true =>
   rw [List.filter_cons_of_pos hq,f6N,f6N,c0a h l]
  | false =>
   have hp:p x=false:=by
    cases hp:p x with
    | false=>rfl
    | true=>rw [h x hp] at hq;cases hq
   rw [List.filter_cons_of_neg (by simp [hq]),f6N,hp,c0a h l]
theorem c3O{α:Type}{p q:α->Bool}(h:∀x,p x=true->q x=false)(l:List α):(l.filter q).find? p=none:=by
 rw [f7v];intro x hx;have hq:=(List.mem_filter.1 hx).2;intro hp;rw [h x hp] at hq;cases hq
theorem c5U{l:List q8}(h:a2Y l)(d:q8)(w:Int):(a0g l d).find? (fun x=>x.a0.b9==w)=bif d.a0.b9==w then some d else l.find? (fun x=>x.a0.b9==w):=by
 rw [b7p d h,List.find?_append,f6N];by_cases hw:d.a0.b9=w
 ·subst hw;rw [c3O (by intro x hx;simp at hx;simp;omega)];simp
 ·have hne:(d.a0.b9==w)=false:=by simpa using hw
  rw [hne];simp only [cond_false];by_cases hlt:w<d.a0.b9
  ·rw [c0a (by intro x hx;simp at hx;simp;omega),c3O (by intro x hx;simp at hx;simp;omega),Option.or_none]
  ·rw [c3O (by intro x hx;simp at hx;simp;omega),c0a (by intro x hx;simp at hx;simp;omega),Option.none_or]
def a0v(s:u0)(w:Int):Option q8:=s.i8.find? (fun x=>x.a0.b9==w)
theorem d3w{s:u0}{k:Nat}{e:m4}(hs:X9 s k)(w:Int):∃d,d.a0=e.a0/\a0v (N5 s e).1 w=bif e.a0.b9==w then some d else a0v s w:=by
 unfold N5 a0v;cases a0z s.g7 e.b7
 ·exact ⟨⟨e.a0,1,0⟩,rfl,c5U hs.sorted _ w⟩
 ·cases e.b7.Code==0
  ·exact ⟨⟨e.a0,2,0⟩,rfl,c5U hs.sorted _ w⟩
  ·exact ⟨⟨e.a0,0,e.b7.d9⟩,rfl,c5U hs.sorted _ w⟩
theorem d8B{s:u0}{k:Nat}{e:m4}(hs:X9 s k)(hn:e.i7=false):∃d,a0v (apply s e).1 e.a0.b9=some d/\e.a0.Seq<=d.a0.Seq:=by
  obtain ⟨d,h1,h2⟩:=d3w (e:=e) hs e.a0.b9;rw [beq_self_eq_true,cond_true] at h2;have hfr:∃d,a0v (N5 s e).1 e.a0.b9=some d/\e.a0.Seq<=d.a0.Seq:=⟨d,h2,by rw [h1];exact f5H _⟩
  unfold apply;rw [hn,cond_false];cases hf:s.i8.find? fun d=>d.a0.b9==e.a0.b9 with
  | none=>exact hfr
  | some d =>
    simp only;cases h3:d.a0.Seq==e.a0.Seq
    · by_cases h4:d.a0.Seq>e.a0.Seq
      · simp only [h4,decide_true,cond_true,cond_false];exact ⟨d,hf,by omega⟩
      · simp only [h4,decide_false,cond_false];exact hfr
    · exact ⟨d, hf, by have:d.a0.Seq=e.a0.Seq:=by simpa using h3
                       omega⟩
theorem e5U{s:u0}{k:Nat}{e:m4}(hs:X9 s k){w:Int}{d:q8}(hd:a0v s w=some d):∃d',a0v (apply s e).1 w=some d'/\d.a0.Seq<=d'.a0.Seq:=by
 have same:∃d',a0v s w=some d'/\d.a0.Seq<=d'.a0.Seq:=⟨d,hd,f5H _⟩
 have hfr:(∀d',a0v s e.a0.b9=some d'->d'.a0.Seq<=e.a0.Seq)->∃d',a0v (N5 s e).1 w=some d'/\d.a0.Seq<=d'.a0.Seq:=by
  intro hle;obtain ⟨d2,h1,h2⟩:=d3w (e:=e) hs w;by_cases hw:e.a0.b9=w
  ·subst hw;rw [beq_self_eq_true,cond_true] at h2;exact ⟨d2,h2,by rw [h1];exact hle d hd⟩
  ·have:(e.a0.b9==w)=false:=by simpa using hw
   rw [this,cond_false] at h2;exact ⟨d,h2.trans hd,f5H _⟩
 unfold apply;cases hn:e.i7
 ·simp only [cond_false];cases hf:s.i8.find? fun d=>d.a0.b9==e.a0.b9 with
  | none=>exact hfr fun d' h=>by unfold a0v at h;rw [hf] at h;cases h
  | some d0 =>
   simp only;cases h3:d0.a0.Seq==e.a0.Seq
   ·by_cases h4:d0.a0.Seq>e.a0.Seq
    ·simp only [h4,decide_true,cond_true,cond_false];exact same
    ·simp only [h4,decide_false,cond_false];refine hfr fun d' h => ?_
     unfold a0v at h;rw [hf] at h;injection h with h;subst h;omega
   ·exact same
 ·exact same
theorem e64{s:u0}{e:m4}{d:q8}(hd:a0v s e.a0.b9=some d)(h:e.a0.Seq<=d.a0.Seq):(apply s e).2≠0:=by
 unfold a0v at hd;unfold apply;cases hn:e.i7
 ·simp only [cond_false,hd];cases h3:d.a0.Seq==e.a0.Seq
  ·have hne:d.a0.Seq≠e.a0.Seq:=by simpa using h3
   have hgt:d.a0.Seq>e.a0.Seq:=by omega
   simp only [hgt,decide_true,cond_true,cond_false];decide
  ·exact show (3:Int)≠0 from by decide
 ·exact show (5:Int)≠0 from by decide
theorem e1c{l:List m4}(hl:l.length<=40)(he:l.all z5=true){i m:Nat}(him:i<m)(hm:m<l.length)(hn:(l[i]'(by omega)).i7=false)(hq:l[m].a0=(l[i]'(by omega)).a0):(o8 l).2[m]?≠some 0:=by
 have hi:i<l.length:=by omega
 have key:∀n,i<n->n<=l.length->∃d,a0v (o8 (l.take n)).1 l[i].a0.b9=some d/\l[i].a0.Seq<=d.a0.Seq:=by
  intro n;induction n with
  | zero=>intro h;omega
  | succ n ih =>
   intro h1 h2;have hin:=(P3 hl he n (by omega)).1;rw [a0L (show n<l.length by omega)];show ∃d,a0v (apply (o8 (l.take n)).1 l[n]).1 l[i].a0.b9=some d/\_
   by_cases hq:i=n
   ·subst hq;exact d8B hin hn
   ·obtain ⟨d,h3,h4⟩:=ih (by omega) (by omega);obtain ⟨d',h5,h6⟩:=e5U (e:=l[n]) hin h3;exact ⟨d',h5,by omega⟩
 obtain ⟨d,h1,h2⟩:=key m him (by omega);rw [a9S hl he hm];intro h;injection h with h;exact e64 (e:=l[m]) (by rw [hq];exact h1) (by rw [hq];exact h2) h
def eN:m4:=⟨true,⟨0,0⟩,⟨[],[],0,0⟩⟩
def v0:m7:=⟨0,zE⟩
def a9V(b:Int):Bool:=p9 b 1 3000
def I3(a:z0)(b:Int):Option z0:=bif a9V b&&decide (a.g9<=b) then some ⟨b,a.a6⟩ else none
def T4(vs:List m7)(n:Nat):List m7:=vs++f5k (n-vs.length) v0
def K5(a:z0)(b slot:Int)(e:m4):Option z0 :=
 bif p9 slot 0 39&&z5 e then (I3 a b).map fun x=>⟨x.g9,(T4 x.a6 (slot.toNat+1)).set slot.toNat ⟨b,e⟩⟩ else none
def D5:List m7->List m7->List m7
 | [],b=>b
 | a,[]=>a
 | x::a,y::b=>(bif decide (y.a7>x.a7) then y else x)::D5 a b
def M0(b who:Int):Int :=
 bif decide (b+1<=3000)&&(f5K (b+1) 3==who) then b+1 else
 bif decide (b+2<=3000)&&(f5K (b+2) 3==who) then b+2 else
 bif decide (b+3<=3000)&&(f5K (b+3) 3==who) then b+3 else -1
def a3v(n:j6):j6:={n with d8:=0,a7:=0,c9:=[],i0:=[],d6:=zE,a6:=[]}
def a6C(n:j6):j6:={n with i9:=false,i6:=[],b8:=zE}
def M9(l:List m4)(q:n7):Bool:=l.any (D2 q)
def a03(id:Int):List Bool:=(f5k 3 false).set id.toNat true
def M8(l:List Bool):Bool:=decide (2<=(l.filter (· == true)).length)
def I4(id:Int)(m:l8):List l8:=(([0,1,2]:List Int).filter (· != id)).map fun t=>{m with c9:=id,To:=t}
def L0(m out:l8):l8:={out with c9:=m.To,To:=m.c9}
def N0(n:j6)(b:Int):j6:=bif n.d8 != 0&&decide (b>n.a7) then a3v n else n
def T8(known:List m4):List m4->List m4×Option m4
 | []=>([],none)
 | e::q=>bif M9 known e.a0 then T8 known q else (q,some e)
def a4A(n:j6):j6×Option m4 :=
 bif (n.i0.drop n.a5.length).any (fun v=>decide (v.a7>0)) then (n,some eN)
 else bif n.i9 && !M9 n.a5 n.b8.a0 then (n,some n.b8)
 else ({n with f0:=(T8 n.a5 n.f0).1},(T8 n.a5 n.f0).2)
def a0D(n:j6):j6×Option m4:=match n.i0[n.a5.length]? with
 | some v=>bif decide (v.a7>0) then (n,some v.i4) else a4A n
 | none=>a4A n
def a6M(x:j6)(e:m4):j6×List l8:=match K5 x.Acc x.a7 (x.a5.length:Int) e with
 | some a=>({x with Acc:=a,d8:=3,d6:=e,a6:=a03 x.Id},I4 x.Id ⟨3,0,0,x.a7,(x.a5.length:Int),e,[]⟩)
 | none=>(a3v x,[])
def M1(n:j6):j6×List l8 :=
 bif n.d8 != 2||decide (40<=n.a5.length) then (n,[]) else match a0D n with
  | (x,some e)=>a6M x e
  | (x,none)=>(x,[])
def U5(n:j6):j6×List n5 :=
 bif n.i9 then (match n.a5.findIdx? (D2 n.b8.a0) with
  | some k=>(a6C n,[⟨n.Id,n.b8.a0,K1 n.a5 k,bif K1 n.a5 k==0 then Q3 n.a5 n.b8.a0 else 0⟩])
  | none=>(n,[]))
 else (n,[])
def E1(n:j6)(e:m4):j6 :=
 bif n.d8==3 then {n with a5:=n.a5++[e],d8:=2,d6:=zE,a6:=[]} else {n with a5:=n.a5++[e]}
def Y2(n:j6)(e:m4):j6×List l8×List n5 :=
 ((M1 (U5 (E1 n e)).1).1,(M1 (U5 (E1 n e)).1).2,(U5 (E1 n e)).2)
def a1v(n:j6)(m:l8):j6×List l8:=match I3 n.Acc m.a7 with
 | some a=>(N0 {n with Acc:=a} m.a7,[L0 m ⟨2,0,0,m.a7,m.g8,zE,a.a6.drop m.g8.toNat⟩])
 | none=>(n,[L0 m ⟨6,0,0,n.Acc.g9,0,zE,[]⟩])
def a1D(n:j6)(m:l8):j6×List l8:=match K5 n.Acc m.a7 m.g8 m.i4 with
 | some a=>(N0 {n with Acc:=a} m.a7,[L0 m ⟨4,0,0,m.a7,m.g8,zE,[]⟩])
 | none=>(n,[L0 m ⟨6,0,0,n.Acc.g9,0,zE,[]⟩])
def a1z(n:j6)(m:l8):j6×List l8 :=
 bif n.d8 != 1||m.a7 != n.a7 then (n,[]) else
 bif M8 (n.c9.set m.c9.toNat true) then
  M1 {n with c9:=[],i0:=D5 n.i0 (f5k m.g8.toNat v0++m.a6),d8:=2}
 else ({n with c9:=n.c9.set m.c9.toNat true,i0:=D5 n.i0 (f5k m.g8.toNat v0++m.a6)},[])
def a2y(n:j6)(m:l8):j6×List l8×List n5 :=
 bif n.d8 != 3||(m.a7 != n.a7||m.g8 != (n.a5.length:Int)) then (n,[],[]) else
 bif M8 (n.a6.set m.c9.toNat true) then
  ((Y2 {n with a6:=n.a6.set m.c9.toNat true} n.d6).1,I4 n.Id ⟨5,0,0,0,(n.a5.length:Int),n.d6,[]⟩++(Y2 {n with a6:=n.a6.set m.c9.toNat true} n.d6).2.1,(Y2 {n with a6:=n.a6.set m.c9.toNat true} n.d6).2.2)
 else ({n with a6:=n.a6.set m.c9.toNat true},[],[])
def a2A(n:j6)(m:l8):j6×List l8×List n5 :=
 bif decide (m.g8<(n.a5.length:Int)) then (n,[],[]) else
 bif decide (m.g8>(n.a5.length:Int)) then (n,[L0 m ⟨8,0,0,0,(n.a5.length:Int),zE,[]⟩],[])
 else Y2 n m.i4
def a1w(n:j6)(m:l8):j6×List l8 :=
 bif n.d8==0||(decide (4<=n.f0.length)||M9 n.a5 m.i4.a0) then (n,[]) else M1 {n with f0:=n.f0++[m.i4]}
def a1o(n:j6)(m:l8)(s:Nat):List l8:=match n.a5[s]? with
 | some e=>[L0 m ⟨5,0,0,0,(s:Int),e,[]⟩]
 | none=>[]
def a4a(n:j6)(m:l8):List l8:=((f5q (n.a5.length-m.g8.toNat)).map fun j=>a1o n m (m.g8.toNat+j)).flatten
def W5(n:j6)(m:l8):j6×List l8×List n5 :=
 bif m.a8==1 then ((a1v n m).1,(a1v n m).2,[]) else
 bif m.a8==2 then ((a1z n m).1,(a1z n m).2,[]) else
 bif m.a8==3 then ((a1D n m).1,(a1D n m).2,[]) else
 bif m.a8==4 then a2y n m else
 bif m.a8==5 then a2A n m else
 bif m.a8==6 then (N0 {n with Acc:=(I3 n.Acc m.a7).getD n.Acc} m.a7,[],[]) else
 bif m.a8==7 then ((a1w n m).1,(a1w n m).2,[]) else
 bif m.a8==8 then (n,a4a n m,[]) else (n,[],[])
def N4(n:j6)(prog:List n8):j6×List l8 :=
 bif n.i9||(n.Seq==1000||(B8 (o8 n.a5).1.g7 prog).Code==3) then (n,[]) else
 bif n.d8==2 then M1 {n with Seq:=n.Seq+1,i9:=true,i6:=prog,b8:=⟨false,⟨n.Id,n.Seq+1⟩,B8 (o8 n.a5).1.g7 prog⟩}
 else ({n with Seq:=n.Seq+1,i9:=true,i6:=prog,b8:=⟨false,⟨n.Id,n.Seq+1⟩,B8 (o8 n.a5).1.g7 prog⟩},
  bif n.d8==0 then I4 n.Id ⟨7,0,0,0,0,⟨false,⟨n.Id,n.Seq+1⟩,B8 (o8 n.a5).1.g7 prog⟩,[]⟩ else [])
def Y3(n:j6):j6×List l8 :=
 bif decide (M0 n.Acc.g9 n.Id<0) then (n,[]) else
 ({a3v n with Acc:=⟨M0 n.Acc.g9 n.Id,n.Acc.a6⟩,d8:=1,a7:=M0 n.Acc.g9 n.Id,c9:=a03 n.Id,i0:=n.Acc.a6},
  I4 n.Id ⟨1,0,0,M0 n.Acc.g9 n.Id,(n.a5.length:Int),zE,[]⟩)
def V4(n:j6):j6×List l8 :=
 bif n.d8==1 then (n,I4 n.Id ⟨8,0,0,0,(n.a5.length:Int),zE,[]⟩++I4 n.Id ⟨1,0,0,n.a7,(n.a5.length:Int),zE,[]⟩) else
 bif n.d8==2 then ((M1 n).1,I4 n.Id ⟨8,0,0,0,(n.a5.length:Int),zE,[]⟩++(M1 n).2) else
 bif n.d8==3 then (n,I4 n.Id ⟨8,0,0,0,(n.a5.length:Int),zE,[]⟩++I4 n.Id ⟨3,0,0,n.a7,(n.a5.length:Int),n.d6,[]⟩) else
 bif n.i9 then (n,I4 n.Id ⟨8,0,0,0,(n.a5.length:Int),zE,[]⟩++I4 n.Id ⟨7,0,0,0,0,n.b8,[]⟩) else
 (n,I4 n.Id ⟨8,0,0,0,(n.a5.length:Int),zE,[]⟩)
def C5(id:Int):j6:=⟨id,⟨0,[]⟩,[],0,0,0,[],[],zE,[],false,[],zE,[]⟩
def a1p(n:j6):j6:={C5 n.Id with Acc:=n.Acc,a5:=n.a5,Seq:=n.Seq}
def P8:m5:=⟨[C5 0,C5 1,C5 2],[],[],[]⟩
def a0M(w:m5)(l:List l8):m5:={w with c8:=w.c8++l.take (40-w.c8.length)}
def a8g(w:m5)(l:List n5):m5:={w with Told:=w.Told++l.take (60-w.Told.length)}
def O6(w:m5)(i:Int)(n:j6):m5:={w with a9:=w.a9.set i.toNat n}
def a28(w:m5)(i:Int):m5:={w with c8:=w.c8.take i.toNat++w.c8.drop (i.toNat+1)}
def I9(w:m5)(i:Int):j6:=w.a9.getD i.toNat (C5 0)
def a6f(w:m5)(i:Int)(prog:List n8):m5 :=
 bif decide (60<=w.d7.length) then w else
 a0M (O6 (bif decide ((N4 (I9 w i) prog).1.Seq>(I9 w i).Seq) then {w with d7:=w.d7++[⟨(N4 (I9 w i) prog).1.b8.a0,prog⟩]} else w) i (N4 (I9 w i) prog).1) (N4 (I9 w i) prog).2
def a2E(w:m5)(e:s5):m5:=bif decide (0<=e.A) then (match w.c8[e.A.toNat]? with
 | some m=>bif e.a8==4 then a0M w [m] else bif e.a8==3 then a28 w e.A else
  a8g (a0M (O6 (a28 w e.A) m.To (W5 (I9 w m.To) m).1) (W5 (I9 w m.To) m).2.1) (W5 (I9 w m.To) m).2.2
 | none=>w) else w
def D7(w:m5)(e:s5):m5 :=
 bif e.a8==2||(e.a8==3||e.a8==4) then a2E w e else
 bif !p9 e.A 0 2 then w else
 bif e.a8==1 then a6f w e.A e.i6 else
 bif e.a8==5 then a0M (O6 w e.A (Y3 (I9 w e.A)).1) (Y3 (I9 w e.A)).2 else
 bif e.a8==6 then a0M (O6 w e.A (V4 (I9 w e.A)).1) (V4 (I9 w e.A)).2 else
 bif e.a8==7 then O6 w e.A (a1p (I9 w e.A)) else w
def a1f(w:m5)(l:List s5):m5:=l.foldl D7 w
theorem a0h:I8 0:=⟨by decide,by decide⟩
theorem U6{α:Type}{b:Nat}{ok:α->Prop}:A3 b ok ([]:List α):=⟨by simp,fun x hx=>by cases hx⟩
theorem a02:F3 zE:=⟨⟨a0h,a0h⟩,U6,U6,a0h,a0h⟩
theorem d6I:F3 eN:=⟨⟨a0h,a0h⟩,U6,U6,a0h,a0h⟩
theorem d5C:T7 v0:=⟨a0h,a02⟩
theorem a57{α R B:Type}{body:List α×Int->Option (l7 R (List α×Int) B)}(l:List α)(hl:s9 l)(f:List α->B)(h1:∀(k:Nat) (h:k<l.length),body (l.take k,(k:Int))=some (.nxt (l.take k++[l[k]],m8 ((k:Int)+1))))(h2:body (l,(l.length:Int))=some (.brk (f l))):p8 body ([],0)=some (.brk (f l)):=by
 have h:=W4 (body:=body) (fun k=>(l.take k,(k:Int))) l.length (by
  intro k hk;rw [h1 k hk,E9 hl hk,f5N hk])
 rw [show ((0:Nat):Int)=0 from rfl,f5T] at h;rw [h,f5C];exact C6 h2
theorem b6g{l:List m7}(h:A3 96 T7 l):a7Q l=some l:=by
 have hf:s9 l:=h.fits (by decide);have hb:=h.1;unfold a7Q;rw [a57 (body:=fun s:(List m7)×Int=>b2V l s.1 s.2) l hf (fun l=>l) (by
  intro k hk;unfold b2V;rw [x8 _ k hk,t9 hk];simp only [cond_true,f5i,a0X (h.2 _ (f5l hk)).2];rw [u7 (by rw [f5G];omega)]) (by
  unfold b2V;rw [z9];rfl)]
 rfl
theorem f0T{l:List m7}(h:A3 96 T7 l):b7w l=some (l,l):=by
 have hf:s9 l:=h.fits (by decide);have hb:=h.1;unfold b7w;rw [a57 (body:=fun s:(List m7)×Int=>b1L l s.1 s.2) l hf (fun l=>l) (by
  intro k hk;unfold b1L;rw [x8 _ k hk,t9 hk];simp only [cond_true,f5i,a0X (h.2 _ (f5l hk)).2];rw [u7 (by rw [f5G];omega)]) (by
  unfold b1L;rw [z9];rfl)]
 rfl
theorem f1i{e:m4}(h:F3 e):b9V e=some e:=by
 have h1:=h.2.1.1;have h2:=h.2.2.1.1;unfold b9V c4Y;rw [u7 (by simp;omega),u7 (by simp;omega)];rfl
theorem e2e{l:List m7}(h:A3 96 T7 l):b6y l=some l:=by
 have hf:s9 l:=h.fits (by decide);have hb:=h.1;unfold b6y;rw [a57 (body:=fun s:(List m7)×Int=>b4I l s.1 s.2) l hf (fun l=>l) (by
  intro k hk;unfold b4I;rw [x8 _ k hk,t9 hk];simp only [cond_true,f5i,f1i (h.2 _ (f5l hk)).2];rw [u7 (by rw [f5G];omega)]) (by
  unfold b4I;rw [z9];rfl)]
 rfl
theorem b6w{m:l8}(h:a0j m):a7J m=some m:=by
 unfold a7J;rw [a0X h.2.2.2.2.2.1,f5i,b6g h.2.2.2.2.2.2];rfl
theorem b3t{α:Type}{b:Nat}{ok:α->Prop}{l:List α}(h:A3 b ok l):(([]:List α).length+l.length)*b<=140737488355328:=by
 have:=h.1;simp only [f6O,f6m];omega
theorem b1y{n:j6}(h:S4 n):a6K n=some n:=by
 obtain ⟨h1,h2,h3,h4,h5,h6,h7,h8,h9,h10,h11,h12,h13⟩:=h;unfold a6K c5A;rw [b6g h2.2,f5i,f5i,c5f h3,f5i,u7 (b3t h7),b6g h8,f5i,a0X h9,f5i,u7 (b3t h10),u7 (b3t h11),a0X h12,f5i,c5f h13];rfl
theorem c3r{a:z0}{b:Int}:b0J a b=match I3 a b with|some _=>none|none=>some (a,false):=by
 unfold b0J I3 a9V;rw [b0b,f5i];cases p9 b 1 3000
 ·rfl
 ·by_cases h:b<a.g9
  ·simp [h,show ¬a.g9<=b by omega]
  ·simp [h,show a.g9<=b by omega]
theorem b9o{a:z0}{b:Int}:a7z a b=some (match I3 a b with|some x=>(x,true)|none=>(a,false)):=by
 unfold a7z I3 a9V;rw [b0b,f5i];cases p9 b 1 3000
 ·rfl
 ·by_cases h:b<a.g9
  ·simp [h,show ¬a.g9<=b by omega]
  ·simp [h,show a.g9<=b by omega]
theorem d6A{a:z0}{b s:Int}{e:m4}(he:F3 e):b39 a b s e=match K5 a b s e with|some _=>none|none=>some (a,false):=by
 unfold b39 K5;rw [a4h he.f,f5i,c3r];by_cases h1:s<0
 ·simp [h1,p9,show ¬(0<=s/\s<=39) by omega]
 ·by_cases h2:s>=40
  ·simp [h1,h2,p9,show ¬(0<=s/\s<=39) by omega]
  ·simp only [h1,h2,decide_false,cond_false,p9,show (0<=s/\s<=39) by omega,and_self,decide_true,f5v];cases z5 e
   ·rfl
   ·simp only [f5n,cond_false,cond_true];cases I3 a b<;>rfl
theorem c8m(slot:Nat)(hs:slot<40):∀(m:Nat) (vs:List m7),slot+1-vs.length=m->p8 (fun s:List m7=>a75 (slot:Int) s) vs=some (.brk (T4 vs (slot+1)))
 | 0,vs,h=>by
  refine C6 ?_;unfold a75 T4;rw [h,show decide ((vs.length:Int)<=(slot:Int))=false by simp;omega];simp
 | m+1,vs,h=>by
  have hb:a75 (slot:Int) vs=some (.nxt (vs++[v0])):=by
   unfold a75;rw [show decide ((vs.length:Int)<=(slot:Int))=true by simp;omega,cond_true,u7 (by omega)];rfl
  rw [E3 (body:=fun s:List m7=>a75 (slot:Int) s) hb,c8m slot hs m (vs++[v0]) (by simp;omega)];congr 2
  unfold T4;rw [h,f5u,show slot+1-(vs.length+[v0].length)=m by simp;omega,f5B];rfl
theorem b48(vs:List m7)(n:Nat):(T4 vs n).length=max vs.length n:=by
 unfold T4;simp;omega
theorem d37{a:z0}{b s:Int}{e:m4}(he:F3 e):b3p a b s e=some (match K5 a b s e with|some x=>(x,true)|none=>(a,false)):=by
 unfold b3p K5;rw [a4h he.f,f5i,c3r,b9o,f5i];by_cases h1:s<0
 ·simp [h1,p9,show ¬(0<=s/\s<=39) by omega]
 ·by_cases h2:s>=40
  ·simp [h1,h2,p9,show ¬(0<=s/\s<=39) by omega]
  ·simp only [h1,h2,decide_false,cond_false,p9,show (0<=s/\s<=39) by omega,and_self,decide_true,f5v];cases z5 e
   ·rfl
   ·simp only [f5n,cond_false,cond_true];cases I3 a b with
    | none=>rfl
    | some x =>
     obtain ⟨k,rfl⟩:∃k:Nat,s=(k:Int):=⟨s.toNat,by omega⟩
     have hk:k<(T4 x.a6 (k+1)).length:=by rw [b48];omega
     simp only [a4D,f5n,cond_false,c8m k (by omega) _ _ rfl,f5i,l9.go,c1K,a0X he,t9 hk,f6x,f5I]
theorem b6I{n:j6}{q:n7}(h:s9 n.a5):a8T n q=some (M9 n.a5 q):=by
  unfold a8T;rw [show p8 (fun s:Int=>b0P n q s) 0=_ from b3G (body:=fun s:Int=>b0P n q s) n.a5 h (D2 q) (fun _=>true) () (by
      intro k hk;unfold b0P c3o D2;rw [x8 _ k hk,t9 hk];simp only [cond_true,f5i];cases n.a5[k].i7<;>cases (([n.a5[k].a0.b9,n.a5[k].a0.Seq]:List Int)==[q.b9,q.Seq])<;>rfl) (by
      unfold b0P;rw [z9];rfl)]
  unfold M9;cases hf:n.a5.find? (D2 q) with
  | none =>
    have:n.a5.any (D2 q)=false:=by
      rw [f5U];intro x hx;exact f7v.1 hf x hx
    rw [this];rfl
  | some x =>
    have:n.a5.any (D2 q)=true:=f6E.2 ⟨x,f7u hf,List.find?_some hf⟩;rw [this];rfl
def a1r(id:Int)(m:l8)(o:List l8)(t:Int):List l8:=bif t != id then o++[{m with c9:=id,To:=t}] else o
theorem c6I(id:Int)(m:l8)(o:List l8)(t:Int):(a1r id m o t).length<=o.length+1:=by
 unfold a1r;cases t != id<;>simp
theorem a5T{id:Int}(hid:0<=id/\id<=2){m:l8}(h:a0j m):a3m id m=some (I4 id m):=by
 have e:∀(o:List l8) (t:Int),o.length<=3->0<=t->t<3->a5y id m o t=some (.nxt (a1r id m o t,t+1)):=by
  intro o t ho ht0 ht;unfold a5y c0y a1r;rw [show decide (t<3)=true by simpa using ht,cond_true,b6w h,f5i,u7 (by omega),C2 (by omega) (by omega)];cases t != id<;>rfl
 have l1:=c6I id m [] 0;have l2:=c6I id m (a1r id m [] 0) (0+1);have h0:=E3 (body:=fun s:(List l8)×Int=>a5y id m s.1 s.2) (s:=([],0)) (e [] 0 (by simp) (by omega) (by omega));have h1:=E3 (body:=fun s:(List l8)×Int=>a5y id m s.1 s.2) (s:=(a1r id m [] 0,0+1)) (e (a1r id m [] 0) (0+1) (by simp at l1;omega) (by omega) (by omega));have h2:=E3 (body:=fun s:(List l8)×Int=>a5y id m s.1 s.2) (s:=(a1r id m (a1r id m [] 0) (0+1),0+1+1)) (e (a1r id m (a1r id m [] 0) (0+1)) (0+1+1) (by simp at l1;omega) (by omega) (by omega));have h3:=C6 (body:=fun s:(List l8)×Int=>a5y id m s.1 s.2) (s:=(a1r id m (a1r id m (a1r id m [] 0) (0+1)) (0+1+1),0+1+1+1)) (show a5y id m _ (0+1+1+1)=_ from rfl);unfold a3m;rw [h0,h1,h2,h3];obtain rfl|rfl|rfl:id=0\/id=1\/id=2:=by omega
 all_goals rfl
theorem c69:∀(l:List Bool) (hl:s9 l) (m k:Nat) (c:Int),k+m=l.length->0<=c->c<=k->p8 (fun s:Int×Int=>a5t l s.1 s.2) (c,(k:Int))=some (.brk (c+(((l.drop k).filter (· == true)).length:Int)))
 | l,hl,0,k,c,hk,h0,h1=>by
  have:k=l.length:=by omega
  subst this;refine C6 ?_;show a5t l c (l.length:Int)=_
  unfold a5t;rw [z9];simp
 | l,hl,m+1,k,c,hk,h0,h1=>by
  have hlt:k<l.length:=by omega
  have hfl:(l.length:Int)<=140737488351232:=by have:=hl;unfold s9 at this;omega
  have hb:a5t l c (k:Int)=some (.nxt (c+(bif l[k] then 1 else 0),((k+1:Nat):Int))):=by
   unfold a5t c29;rw [x8 _ k hlt,t9 hlt,cond_true,f5i,E9 hl hlt];cases l[k]<;>simp only [cond_true,cond_false,f5i]<;>rw [C2 (by omega) (by omega)]
  rw [E3 (body:=fun s:Int×Int=>a5t l s.1 s.2) hb,c69 l hl m (k+1) _ (by omega) (by cases l[k]<;>simp<;>omega) (by cases l[k]<;>simp<;>omega),f5z hlt];cases l[k]<;>simp
  omega
theorem d0F{l:List Bool}(h:s9 l):b11 l=some (M8 l):=by
 unfold b11;rw [show p8 (fun s:Int×Int=>a5t l s.1 s.2) (0,0)=_ from c69 l h l.length 0 0 (by omega) (by omega) (by omega)];simp only [f5i,l9.go,c4i,M8,f6q];congr 1
 simp;omega
theorem e8s{l:List m7}{s:Int}(h:A3 96 T7 l)(hl:l.length<=40)(hs:0<=s/\s<=40):b7y l s=some (f5k s.toNat v0++l):=by
 unfold b7y;rw [u7 (by omega),b6g h,f5i,u7 (by simp;omega)];rfl
theorem a8P:∀a b:List m7,(D5 a b).length=max a.length b.length
 | [],b=>by simp [D5]
 | x::a,[]=>by simp [D5]
 | x::a,y::b=>by simp only [D5,f6n,a8P a b];omega
theorem b1c:∀(a b:List m7) (k:Nat),(D5 a b)[k]?=match a[k]?,b[k]? with
  | some x,some y=>some (bif decide (y.a7>x.a7) then y else x)
  | some x,none=>some x
  | none,some y=>some y
  | none,none=>none
 | [],b,k=>by simp [D5];cases b[k]?<;>rfl
 | x::a,[],k=>by simp [D5];cases (x::a)[k]?<;>rfl
 | x::a,y::b,0=>by simp [D5]
 | x::a,y::b,k+1=>by simp only [D5,f6w];exact b1c a b k
theorem a9C{a b:List m7}{v:m7}(h:v∈D5 a b):v∈a\/v∈b:=by
 obtain ⟨k,hk⟩:=f6T h;rw [b1c] at hk;cases ha:a[k]? with
 | none =>
  cases hb:b[k]? with
  | none=>rw [ha,hb] at hk;cases hk
  | some y=>rw [ha,hb] at hk;injection hk with hk;subst hk;exact .inr (f5w hb)
 | some x =>
  cases hb:b[k]? with
  | none=>rw [ha,hb] at hk;injection hk with hk;subst hk;exact .inl (f5w ha)
  | some y =>
   rw [ha,hb] at hk;simp only at hk;cases hd:decide (y.a7>x.a7)
   ·rw [hd] at hk;injection hk with hk;subst hk;exact .inl (f5w ha)
   ·rw [hd] at hk;injection hk with hk;subst hk;exact .inr (f5w hb)
theorem e0i{a b:List m7}(ha:A3 96 T7 a)(hb:A3 96 T7 b)(hla:a.length<=80)(hlb:b.length<=80)(hz:∀v∈b,v.a7<=0->v=v0):b9A a b=some (D5 a b):=by
 have hlen:=a8P a b;unfold b9A;rw [a57 (body:=fun s:(List m7)×Int=>a7e a b s.1 s.2) (D5 a b) (by unfold s9;omega) (fun l=>l) (by
  intro k hk;have hget:=b1c a b k;rw [f5j hk] at hget;have hent:∀v,v∈a\/v∈b->F3 v.i4:=fun v hv=>hv.elim (fun q=>(ha.2 v q).2) (fun q=>(hb.2 v q).2)
  have hj1:∀v:m7,F3 v.i4->b52 ((D5 a b).take k) (k:Int) v=some (.nxt ((D5 a b).take k++[v],m8 ((k:Int)+1))):=by
   intro v hv;unfold b52;rw [a0X hv,f5i,u7 (by rw [f5G];omega)]
  show a7e a b ((D5 a b).take k) (k:Int)=_
  have hkk:k<a.length\/k<b.length:=by omega
  have hstart:a7e a b ((D5 a b).take k) (k:Int)=b9F a b ((D5 a b).take k) (k:Int):=by
   unfold a7e;by_cases h1:k<a.length
   ·rw [x8 _ k h1];rfl
   ·rw [show decide ((k:Int)<(a.length:Int))=false by simp;omega,x8 _ k (by omega)];rfl
  rw [hstart];unfold b9F;by_cases h1:k<a.length
  ·rw [x8 _ k h1,t9 h1];simp only [cond_true,f5i,l9.go];unfold b7t;rw [f5j h1] at hget;by_cases h2:k<b.length
   ·rw [x8 _ k h2,t9 h2];rw [f5j h2] at hget;simp only [cond_true,f5i];injection hget with hget;rw [hget];cases decide (b[k].a7>a[k].a7)
    ·simp only [cond_false,f5i,l9.go];exact hj1 _ (hent _ (.inl (f5l h1)))
    ·simp only [cond_true,f5i,l9.go];exact hj1 _ (hent _ (.inr (f5l h2)))
   ·rw [show decide ((k:Int)<(b.length:Int))=false by simp;omega];rw [f5O (by omega)] at hget;injection hget with hget;rw [hget];simp only [cond_false,f5i,l9.go];exact hj1 _ (hent _ (.inl (f5l h1)))
  ·have h2:k<b.length:=by omega
   rw [show decide ((k:Int)<(a.length:Int))=false by simp;omega];simp only [cond_false,f5i,l9.go];unfold b7t;rw [x8 _ k h2,t9 h2];rw [f5O (by omega),f5j h2] at hget;injection hget with hget;rw [hget];simp only [cond_true,f5i];by_cases h3:b[k].a7>0
   ·rw [show decide (b[k].a7>0)=true by simpa using h3];simp only [cond_true,f5i,l9.go];exact hj1 _ (hent _ (.inr (f5l h2)))
   ·have hv:=hz _ (f5l h2) (by omega);rw [show decide (b[k].a7>0)=false by simpa using h3];simp only [cond_false,f5i,l9.go];rw [hv];exact hj1 v0 a02) (by
  show a7e a b (D5 a b) ((D5 a b).length:Int)=_
  unfold a7e;rw [show decide (((D5 a b).length:Int)<(a.length:Int))=false by simp;omega,show decide (((D5 a b).length:Int)<(b.length:Int))=false by simp;omega];rfl)]
 rfl
theorem e3R{b who:Int}(hb:0<=b/\b<=3000)(hw:0<=who/\who<=2):c0u b who=some (M0 b who):=by
 have e:∀i:Int,1<=i->i<=3->a4e b who (b+i)=some (bif decide (b+i<=3000) then (bif f5K (b+i) 3==who then .ret (b+i) else .nxt (b+(i+1))) else .brk ()):=by
  intro i h1 h3;unfold a4e;rw [C2 (by omega) (by omega),show decide (b+i<=b+3)=true by simp;omega,cond_true,C2 (by omega) (by omega),Int.add_assoc];cases decide (b+i<=3000)
  ·rfl
  ·cases f5K (b+i) 3==who<;>rfl
 have e4:a4e b who (b+4)=some (.brk ()):=by
  unfold a4e;rw [C2 (by omega) (by omega),show decide (b+4<=b+3)=false by simp];rfl
 have e1:=e 1 (by omega) (by omega);have e2:=e 2 (by omega) (by omega);have e3:=e 3 (by omega) (by omega);unfold c0u M0;rw [show decide (b<0)=false by simp;omega,show decide (b>3000)=false by simp;omega,show decide (who<0)=false by simp;omega,show decide (who>=3)=false by simp;omega,C2 (by omega) (by omega)];simp only [cond_false];have hb4:p8 (fun s:Int=>a4e b who s) (b+4)=some (.brk ()):=C6 e4;have h3:p8 (fun s:Int=>a4e b who s) (b+3)=some (bif decide (b+3<=3000)&&(f5K (b+3) 3==who) then .ret (b+3) else .brk ()):=by
  cases q:decide (b+3<=3000)
  ·rw [q] at e3;exact C6 e3
  ·rw [q] at e3;cases t:f5K (b+3) 3==who
   ·rw [t] at e3;rw [E3 e3];exact hb4
   ·rw [t] at e3;exact V8 e3
 have h2:p8 (fun s:Int=>a4e b who s) (b+2)=some (bif decide (b+2<=3000)&&(f5K (b+2) 3==who) then .ret (b+2) else bif decide (b+3<=3000)&&(f5K (b+3) 3==who) then .ret (b+3) else .brk ()):=by
  cases q:decide (b+2<=3000)
  ·rw [q] at e2;rw [show decide (b+3<=3000)=false by simp at q ⊢;omega];exact C6 e2
  ·rw [q] at e2;cases t:f5K (b+2) 3==who
   ·rw [t] at e2;rw [E3 e2];exact h3
   ·rw [t] at e2;exact V8 e2
 have h1:p8 (fun s:Int=>a4e b who s) (b+1)=some (bif decide (b+1<=3000)&&(f5K (b+1) 3==who) then .ret (b+1) else bif decide (b+2<=3000)&&(f5K (b+2) 3==who) then .ret (b+2) else bif decide (b+3<=3000)&&(f5K (b+3) 3==who) then .ret (b+3) else .brk ()):=by
  cases q:decide (b+1<=3000)
  ·rw [q] at e1;rw [show decide (b+2<=3000)=false by simp at q ⊢;omega,show decide (b+3<=3000)=false by simp at q ⊢;omega];exact C6 e1
  ·rw [q] at e1;cases t:f5K (b+1) 3==who
   ·rw [t] at e1;rw [E3 e1];exact h2
   ·rw [t] at e1;exact V8 e1
 rw [h1];cases decide (b+1<=3000)&&(f5K (b+1) 3==who)<;>cases decide (b+2<=3000)&&(f5K (b+2) 3==who)<;>cases decide (b+3<=3000)&&(f5K (b+3) 3==who)<;>rfl
theorem A4{n:Int}(h:-1000000000<=n/\n<=1000000000):I8 n:=⟨by omega,by omega⟩
theorem a0k{α:Type}{b:Nat}{ok:α->Prop}{l:List α}(hl:l.length*b<=1000000000)(h:∀x∈l,ok x):A3 b ok l:=⟨by omega,h⟩
theorem f3a{α:Type}{b:Nat}{ok:α->Prop}{l l':List α}(h:A3 b ok l)(hl:l'.length<=l.length)(hs:∀x∈l',x∈l):A3 b ok l' :=
 ⟨Nat.le_trans (f5M _ hl) h.1,fun x hx=>h.2 x (hs x hx)⟩
theorem c1R{l:List m4}{q:n7}:M9 l q=(l.findIdx? (D2 q)).isSome:=by
 unfold M9;cases h:l.findIdx? (D2 q) with
 | none =>
  rw [f7t] at h;rw [Option.isSome_none,f5U];intro x hx;rw [h x hx];simp
 | some k =>
  rw [f6a] at h;obtain ⟨hk,h1,_⟩:=h;rw [Option.isSome_some];exact f6E.2 ⟨l[k],f5l hk,h1⟩
theorem e6F{n:j6}(h:A3 88 F3 n.a5)(hok:G0 n.a5=true):c0n n=some (U5 n):=by
 obtain ⟨hl,he⟩:=X0 hok;have hf:s9 n.a5:=h.fits (by decide);unfold c0n U5;rw [b6I hf,f5i,c1R];cases n.i9
 ·rfl
 simp only [f5n,cond_false,cond_true];cases hfi:n.a5.findIdx? (D2 n.b8.a0) with
 | none=>rfl
 | some kk =>
 simp only [Option.isSome_some,f5n,cond_false,b90,f5i];have:=a9W (body:=fun s:(List m9)×Int×Int×List q8=>b0t n s.1 s.2.1 s.2.2.1 s.2.2.2) (fun k=>((o8 (n.a5.take k)).1.g7,(k:Int),(o8 (n.a5.take k)).1.At,(o8 (n.a5.take k)).1.i8)) n.a5 (D2 n.b8.a0) (fun k=>(a6C n,[⟨n.Id,n.b8.a0,K1 n.a5 k,bif K1 n.a5 k==0 then (match n.a5[k]? with|some e=>e.b7.d9|none=>0) else 0⟩])) () (by
   intro k hk;obtain ⟨h1,h2,h3⟩:=P3 hl he k (by omega);unfold b0t c1L D2 K1;rw [x8 _ k hk,t9 hk,c1v hl he hk,a0L hk,<-E9 hf hk,f5j hk];simp only [cond_true,f5i];rw [show (⟨(o8 (n.a5.take k)).1.At,(o8 (n.a5.take k)).1.g7,(o8 (n.a5.take k)).1.i8⟩:u0)=(o8 (n.a5.take k)).1 from rfl,b5H h1 (by omega) (List.all_eq_true.1 he _ (f5l hk)) (h.2 _ (f5l hk)).f,f5i];cases n.a5[k].i7<;>cases (([n.a5[k].a0.b9,n.a5[k].a0.Seq]:List Int)==[n.b8.a0.b9,n.b8.a0.Seq])<;>first|rfl|skip
   simp only [cond_false,f5n,f5J,f5v,cond_true,f6D];cases ((apply (o8 (n.a5.take k)).1 n.a5[k]).2==0)<;>rfl) (by
   unfold b0t;rw [z9];rfl)
 rw [f5T,hfi] at this;rw [show p8 (fun s:(List m9)×Int×Int×List q8=>b0t n s.1 s.2.1 s.2.2.1 s.2.2.2) (P4.g7,0,P4.At,P4.i8)=_ from this];simp only [f5i,l9.go,Q3,hfi];all_goals rfl
theorem e37{l:List m7}(hf:s9 l)(k:Nat):b5G l (k:Int)=some ((l.drop k).any fun v=>decide (v.a7>0)):=by
 have key:∀(m k:Nat),l.length-k=m->p8 (fun s:Int=>a7U l s) (k:Int)=some (bif (l.drop k).any (fun v=>decide (v.a7>0)) then .ret true else .brk ()):=by
  intro m;induction m with
  | zero =>
   intro k hk;rw [f5F (by omega)];refine C6 ?_;unfold a7U;rw [show decide ((k:Int)<(l.length:Int))=false by simp;omega];rfl
  | succ m ih =>
   intro k hk;have hlt:k<l.length:=by omega
   rw [f5z hlt,f7r];cases hd:decide (l[k].a7>0)
   ·rw [E3 (body:=fun s:Int=>a7U l s) (t:=((k+1:Nat):Int)) (by
     unfold a7U;rw [x8 _ k hlt,t9 hlt,cond_true,f5i,hd,E9 hf hlt];rfl),ih (k+1) (by omega),f5R]
   ·refine V8 ?_;unfold a7U;rw [x8 _ k hlt,t9 hlt,cond_true,f5i,hd];rfl
 unfold b5G;rw [key _ k rfl];cases (l.drop k).any fun v=>decide (v.a7>0)<;>rfl
theorem d4Y(n:j6)(hk:s9 n.a5):∀(q:List m4),A3 88 F3 q->p8 (fun s:List m4=>b1e n s) q=some (match T8 n.a5 q with
  | (q',some e)=>.ret ({n with f0:=q'},e,true)
  | (q',none)=>.brk q')
 | [],h=>C6 rfl
 | e::q,h=>by
  have hb:=h.1;rw [f6n,f6r] at hb;have h':A3 88 F3 q:=⟨by omega,fun x hx=>h.2 x (f7q _ hx)⟩
  have ht:(([]:List m4)++((e::q).drop (0+(1:Int).toNat)).take ((e::q).length-(1:Int).toNat))=q:=by
   simp
  have hs:b1e n (e::q)=some (bif M9 n.a5 e.a0 then .nxt q else .ret ({n with f0:=q},e,true)):=by
   unfold b1e;rw [show decide (((e::q).length:Int)>0)=true by simp,cond_true,show idx (e::q) 0=some e from rfl,f5i,u7 (by simp;omega),u7 (by simp;omega),ht,b6I (n:={n with f0:=q}) hk,f5i];cases M9 n.a5 e.a0<;>rfl
  unfold T8;cases hd:M9 n.a5 e.a0
  ·rw [hd] at hs;exact V8 hs
  ·rw [hd] at hs;rw [E3 (body:=fun s:List m4=>b1e n s) hs];exact d4Y n hk q h'
def b9s(x:j6×Option m4):j6×m4×Bool:=match x with
 | (n,some e)=>(n,e,true)
 | (n,none)=>(n,zE,false)
theorem d9R{n:j6}(h:S4 n):b8V n=some (b9s (a0D n)):=by
 obtain ⟨h1,h2,h3,h4,h5,h6,h7,h8,h9,h10,h11,h12,h13⟩:=h;have hk:s9 n.a5:=h3.fits (by decide);have j1:b9v n=some (b9s ({n with f0:=(T8 n.a5 n.f0).1},(T8 n.a5 n.f0).2)):=by
  unfold b9v;rw [d4Y n hk _ h13];obtain ⟨q,o⟩:=T8 n.a5 n.f0;cases o<;>rfl
 have j2:b8l n=some (b9s (a4A n)):=by
  unfold b8l a4A;rw [e37 (h8.fits (by decide)),f5i,b6I hk,a0X h12];generalize (({n with f0:=(T8 n.a5 n.f0).1},(T8 n.a5 n.f0).2):j6×Option m4)=X at j1 ⊢;cases (n.i0.drop n.a5.length).any fun v=>decide (v.a7>0)
  ·simp only [cond_false];cases n.i9
   ·exact j1
   ·cases M9 n.a5 n.b8.a0
    ·rfl
    ·exact j1
  ·rfl
 unfold b8V a0D;by_cases hl:n.a5.length<n.i0.length
 ·rw [x8 _ _ hl,t9 hl,f5j hl];simp only [cond_true,f5i];cases decide (n.i0[n.a5.length].a7>0)
  ·exact j2
  ·simp only [cond_true,a0X (h8.2 _ (f5l hl)).2,f5i,l9.go];rfl
 ·rw [show decide ((n.a5.length:Int)<(n.i0.length:Int))=false by simp;omega,f5O (by omega)];exact j2
theorem c9c(known:List m4):∀(q:List m4),(T8 known q).1.length<=q.length/\(∀x∈(T8 known q).1,x∈q)/\∀e,(T8 known q).2=some e->e∈q/\M9 known e.a0=false/\(T8 known q).1.length<q.length
 | []=>⟨f5y _,fun x hx=>hx,fun e he=>by cases he⟩
 | e::q=>by
  unfold T8;cases hk:M9 known e.a0
  ·refine ⟨by simp,fun x hx=>by simpa using .inr hx,fun e' he => ?_⟩;injection he with he;subst he;exact ⟨by simp,hk,by simp⟩
  ·obtain ⟨a,b,c⟩:=c9c known q;refine ⟨by simp only [cond_true,f6n];omega,fun x hx=>f7q _ (b x hx),fun e' he => ?_⟩;obtain ⟨x,y,z⟩:=c e' he;exact ⟨f7q _ x,y,by simp only [cond_true,f6n];omega⟩
inductive a2p (n:j6):m4->Prop
 | best (v) (h:n.i0[n.a5.length]?=some v) (hb:v.a7>0):a2p n v.i4
 | gap (v) (h:v∈n.i0.drop n.a5.length) (hb:v.a7>0) (hn:∀v,n.i0[n.a5.length]?=some v->¬v.a7>0):a2p n eN
 | want (h:n.i9=true) (hk:M9 n.a5 n.b8.a0=false) (hn:∀v∈n.i0.drop n.a5.length,¬v.a7>0):a2p n n.b8
 | queue (e) (h:e∈n.f0) (hk:M9 n.a5 e.a0=false) (hn:∀v∈n.i0.drop n.a5.length,¬v.a7>0):a2p n e
theorem b01(n:j6):∃q:List m4,(a0D n).1={n with f0:=q}/\q.length<=n.f0.length/\(∀x∈q,x∈n.f0)/\∀e,(a0D n).2=some e->a2p n e:=by
 have rest:(∀v,n.i0[n.a5.length]?=some v->¬v.a7>0)->∃q:List m4,(a4A n).1={n with f0:=q}/\q.length<=n.f0.length/\(∀x∈q,x∈n.f0)/\∀e,(a4A n).2=some e->a2p n e:=by
  intro hn;unfold a4A;cases ha:(n.i0.drop n.a5.length).any fun v=>decide (v.a7>0)
  ·have hnv:∀v∈n.i0.drop n.a5.length,¬v.a7>0:=fun v hv=>by simpa using f5U.1 ha v hv
   cases hb:n.i9 && !M9 n.a5 n.b8.a0
   ·obtain ⟨a,b,c⟩:=c9c n.a5 n.f0;exact ⟨_,rfl,a,b,fun e he=>.queue e (c e he).1 (c e he).2.1 hnv⟩
   ·simp only [f5m,f6c] at hb;refine ⟨n.f0,rfl,f5y _,fun _ h=>h,fun e he => ?_⟩;injection he with he;subst he;exact .want hb.1 hb.2 hnv
  ·obtain ⟨v,hv,hb⟩:=f6E.1 ha;refine ⟨n.f0,rfl,f5y _,fun _ h=>h,fun e he => ?_⟩;injection he with he;subst he;exact .gap v hv (by simpa using hb) hn
 unfold a0D;cases hg:n.i0[n.a5.length]? with
 | none=>exact rest (by rw [hg];simp)
 | some v =>
  simp only;cases hb:decide (v.a7>0)
  ·exact rest (by rw [hg];intro w hw;injection hw with hw;subst hw;simpa using hb)
  ·refine ⟨n.f0,rfl,f5y _,fun _ h=>h,fun e he => ?_⟩;injection he with he;subst he;exact .best v hg (by simpa using hb)
theorem a2p.ok{n:j6}(h:S4 n){e:m4}(hn:a2p n e):F3 e:=by
 cases hn with
 | best v hv hb=>exact (h.2.2.2.2.2.2.2.1.2 v (f5w hv)).2
 | gap=>exact d6I
 | want=>exact h.2.2.2.2.2.2.2.2.2.2.2.1
 | queue e hq=>exact h.2.2.2.2.2.2.2.2.2.2.2.2.2 e hq
theorem a7R{k b s:Int}{e:m4}{vs:List m7}(hk:I8 k)(hb:I8 b)(hs:I8 s)(he:F3 e)(hv:A3 96 T7 vs):a0j ⟨k,0,0,b,s,e,vs⟩:=⟨hk,a0h,a0h,hb,hs,he,hv⟩
theorem c1f{id:Int}(h:0<=id/\id<=2):∃y,idx (f5k (3:Int).toNat false) id=some y:=by
 obtain rfl|rfl|rfl:id=0\/id=1\/id=2:=by omega
 all_goals exact ⟨false,rfl⟩
theorem b2I{n:j6}(h:S4 n)(hid:0<=n.Id/\n.Id<=2):a54 n=some (M1 n):=by
 unfold a54 M1;rw [show decide ((n.a5.length:Int)>=40)=decide (40<=n.a5.length) by simp;omega];cases n.d8 != 2
 ·simp only [cond_false,f5R];cases hlt:decide (40<=n.a5.length)
  ·simp only [cond_false,d9R h,f5i];obtain ⟨q,hq,hql,hqm,hqe⟩:=b01 n;cases hx:a0D n with
   | mk x o =>
   rw [hx] at hq hqe;have hq:x={n with f0:=q}:=hq;cases o with
   | none=>rfl
   | some e =>
    have he:=(hqe e rfl).ok h;have hlen:n.a5.length<40:=by simpa using hlt
    subst hq;simp only [b9s,f5n,cond_false,d6A he,d37 he,a6M];cases K5 n.Acc n.a7 (n.a5.length:Int) e with
    | none=>rfl
    | some a =>
     obtain ⟨y,hy⟩:=c1f hid;simp only [a4D,f5i,f5n,cond_false,a0X he,hy];rw [u7 (by omega),a5T hid (a7R (A4 (by omega)) h.2.2.2.2.2.1 (A4 (by omega)) he U6)];rfl
  ·rfl
 ·rfl
theorem e2f{n:j6}(h:S4 n):S4 (a6C n):=by
 obtain ⟨h1,h2,h3,h4,h5,h6,h7,h8,h9,h10,h11,h12,h13⟩:=h;exact ⟨h1,h2,h3,h4,h5,h6,h7,h8,h9,h10,U6,a02,h13⟩
theorem f1m{n:j6}(h:S4 n){e:m4}(he:F3 e)(hl:n.a5.length<=40):S4 (E1 n e):=by
 obtain ⟨h1,h2,h3,h4,h5,h6,h7,h8,h9,h10,h11,h12,h13⟩:=h;have hk:A3 88 F3 (n.a5++[e]):=a0k (by simp;omega) (by
  intro x hx;rcases List.mem_append.1 hx with q|q
  ·exact h3.2 x q
  ·rw [f5p.1 q];exact he)
 unfold E1;cases n.d8==3
 ·exact ⟨h1,h2,hk,h4,h5,h6,h7,h8,h9,h10,h11,h12,h13⟩
 ·exact ⟨h1,h2,hk,h4,A4 (n:=2) (by omega),h6,h7,h8,a02,U6,h11,h12,h13⟩
theorem b0W(n:j6):(U5 n=(n,[]))\/∃k,n.i9=true/\n.a5.findIdx? (D2 n.b8.a0)=some k/\U5 n=(a6C n,[⟨n.Id,n.b8.a0,K1 n.a5 k,bif K1 n.a5 k==0 then Q3 n.a5 n.b8.a0 else 0⟩]):=by
 unfold U5;cases n.i9
 ·exact .inl rfl
 ·cases h:n.a5.findIdx? (D2 n.b8.a0) with
  | none=>exact .inl rfl
  | some k=>exact .inr ⟨k,rfl,rfl,rfl⟩
theorem e4O{n:j6}(h:S4 n):S4 (U5 n).1:=by
 rcases b0W n with q|⟨k,_,_,q⟩<;>rw [q]
 ·exact h
 ·exact e2f h
theorem d3d(n:j6):(U5 n).1.Id=n.Id:=by
 rcases b0W n with q|⟨k,_,_,q⟩<;>rw [q];rfl
theorem b6T(n:j6)(e:m4):(E1 n e).Id=n.Id:=by
 unfold E1;cases n.d8==3<;>rfl
theorem c0B(n:j6)(e:m4):(E1 n e).a5=n.a5++[e]:=by
 unfold E1;cases n.d8==3<;>rfl
theorem d2H{n:j6}(h:S4 n)(hid:0<=n.Id/\n.Id<=2)(hk:G0 n.a5=true)(hl:n.a5.length<40){e:m4}(he:F3 e)(hok:z5 e=true):b2T n e=some (Y2 n e):=by
 have hkn:=f1m h he (by omega);have hko:G0 (E1 n e).a5=true:=by
  rw [c0B];obtain ⟨a,b⟩:=X0 hk;unfold G0;simp only [f5u,f6o,List.all_append,List.all_cons,List.all_nil,b,hok,f6A,Bool.and_self,decide_eq_true_eq];omega
 have hj:∀(p:Int) (c:m4) (vs:List Bool),(⟨n.Id,n.Acc,n.a5++[e],n.Seq,p,n.a7,n.c9,n.i0,c,vs,n.i9,n.i6,n.b8,n.f0⟩:j6)=E1 n e->c0r n e vs c.a0.b9 c.a0.Seq c.b7.b5 c.b7.b6 c.b7.d9 c.b7.Code p c.i7=some (Y2 n e):=by
  intro p c vs hq;unfold c0r;rw [show (j6.mk n.Id n.Acc (n.a5++[e]) n.Seq p n.a7 n.c9 n.i0 (m4.mk c.i7 (n7.mk c.a0.b9 c.a0.Seq) (n6.mk c.b7.b5 c.b7.b6 c.b7.d9 c.b7.Code)) vs n.i9 n.i6 n.b8 n.f0)=E1 n e from hq,e6F hkn.2.2.1 hko,f5i,b2I (e4O hkn) (by rw [d3d,b6T];exact hid),f5i];rfl
 unfold b2T;rw [a0X he,f5i,u7 (by omega)];cases hp:n.d8==3
 ·exact hj n.d8 n.d6 n.a6 (by unfold E1;rw [hp];rfl)
 ·exact hj 2 zE [] (by unfold E1;rw [hp];rfl)
theorem f2b{r:n6}(h:U2 r=true):r.b5.length<=4:=by
 have h0:a8Y r.b5=true:=by
  rw [b1k] at h;simp only [f5m] at h;exact h.2.2.2.2.1
 obtain ⟨h1,h2⟩:=d40.1 h0;let ps:List p6:=r.b5.map fun x=>⟨x.i5,0⟩
 have hp:∀p∈ps,a0u p:=by
  intro p hp;obtain ⟨x,hx,rfl⟩:=List.mem_map.1 hp;exact ⟨(h1 x hx).1,(h1 x hx).2.1,by simp,by simp⟩
 have hpw:ps.Pairwise fun p q=>p.i5≠q.i5:=List.pairwise_map.2 h2
 have hl:=c1B hp;have a:=a6U hpw 0;have b:=a6U hpw 1;have c:=a6U hpw 2;have d:=a6U hpw 3;have:ps.length=r.b5.length:=f5Y ..;omega
theorem e3K{r:n6}(h:a4i r ⟨[],[],0,0⟩=true):r=⟨[],[],0,0⟩:=(c4o _ _).1 h
theorem d9L{e:m4}(h:z5 e=true)(hn:e.i7=true):e=eN:=by
 unfold z5 at h;rw [hn] at h;simp only [cond_true,f5m,beq_iff_eq,List.cons.injEq,and_true] at h;obtain ⟨⟨h1,h2⟩,h3⟩:=h;have h4:=e3K h3;clear h3;obtain ⟨n,⟨a,b⟩,r⟩:=e;simp only at hn h1 h2 h4;subst hn h1 h2 h4;rfl
theorem d7j{r:n6}(h:U2 r=true):b88 r:=by
 obtain ⟨h1,h2,_,h4,h5⟩:=a21 h;have r4:=f2b h;have p4:=e3S h;exact ⟨a0k (by omega) fun x hx=>by have:=h4 x hx;exact ⟨A4 (by omega),A4 (by omega)⟩,
  a0k (by omega) fun x hx=>by have:=h5 x hx;exact ⟨A4 (by omega),A4 (by omega)⟩,A4 (by omega),A4 (by omega)⟩
theorem a2K{e:m4}(h:z5 e=true):F3 e:=by
 cases hn:e.i7 with
 | true=>rw [d9L h hn];exact d6I
 | false =>
  obtain ⟨h1,h2,h3,_⟩:=a3B h hn;exact ⟨⟨A4 (by omega),A4 (by omega)⟩,d7j h3⟩
theorem d1t{l:List m4}(hl:l.length<=1000)(h:∀e∈l,z5 e=true):A3 88 F3 l:=a0k (by omega) fun e he=>a2K (h e he)
def VI(v:m7):Prop:=v=v0\/(1<=v.a7/\v.a7<=3000/\z5 v.i4=true)
theorem f1c{v:m7}:a0p v=true↔VI v:=by
 unfold a0p VI;by_cases hb:v.a7=0
 ·simp only [hb,beq_self_eq_true,cond_true,a45];constructor
  ·intro h;left;obtain ⟨b,e⟩:=v;simp only at hb h;subst hb h;rfl
  ·rintro (h|h)
   ·rw [h];rfl
   ·omega
 ·have:(v.a7==0)=false:=by simpa using hb
  simp only [this,cond_false,f5m,K4];constructor
  ·intro h;exact .inr ⟨h.1.1,h.1.2,h.2⟩
  ·rintro (h|h)
   ·rw [h] at hb;exact absurd rfl hb
   ·exact ⟨⟨h.1,h.2.1⟩,h.2.2⟩
theorem VI.ok{v:m7}(h:VI v):T7 v:=by
 rcases h with rfl|⟨h1,h2,h3⟩
 ·exact d5C
 ·exact ⟨A4 (by omega),a2K h3⟩
theorem VI.bal{v:m7}(h:VI v):0<=v.a7/\v.a7<=3000:=by
 rcases h with rfl|⟨h1,h2,h3⟩
 ·exact ⟨by decide,by decide⟩
 ·exact ⟨by omega,h2⟩
theorem VI.zero{v:m7}(h:VI v)(hb:v.a7<=0):v=v0:=by
 rcases h with rfl|⟨h1,_⟩
 ·rfl
 ·omega
theorem VI.pos{v:m7}(h:VI v)(hb:v.a7>0):z5 v.i4=true:=by
 rcases h with rfl|⟨_,_,h⟩
 ·exact absurd hb (by decide)
 ·exact h
theorem a31{l:List m7}(hl:l.length<=1000)(h:∀v∈l,VI v):A3 96 T7 l:=a0k (by omega) fun v hv=>(h v hv).ok
theorem a80{l:List m7}:M2 l=true↔l.length<=40/\∀v∈l,VI v:=by
 unfold M2;simp only [f5m,decide_eq_true_eq,List.all_eq_true,f1c]
structure e4B(id bal pr:Int)(best:List m7):Prop where
 b1:1<=bal
 b2:bal<=3000
 mod:f5K bal 3=id
 pr:bal<=pr
 bl:best.length<=40
 bs:∀v∈best,VI v
abbrev Own(n:j6):Prop:=e4B n.Id n.a7 n.Acc.g9 n.i0
def a0O(n:j6):Prop :=
 (n.d8=0/\n.a7=0/\n.c9=[]/\n.i0=[]/\n.d6=zE/\n.a6=[])\/
 (n.d8=1/\Own n/\n.c9.length=3/\n.c9[n.Id.toNat]?=some true/\n.d6=zE/\n.a6=[])\/
 (n.d8=2/\Own n/\n.c9=[]/\n.d6=zE/\n.a6=[])\/
 (n.d8=3/\Own n/\n.c9=[]/\z5 n.d6=true/\n.a6.length=3/\n.a6[n.Id.toNat]?=some true/\n.a5.length<40)
def c4P(n:j6):Prop :=
 (n.i9=true/\E2 n.i6=true/\z5 n.b8=true/\n.b8.i7=false/\n.b8.a0=⟨n.Id,n.Seq⟩)\/(n.i9=false/\n.i6=[]/\n.b8=zE)
structure NI(n:j6):Prop where
 id:0<=n.Id/\n.Id<=2
 pr:0<=n.Acc.g9/\n.Acc.g9<=3000
 vl:n.Acc.a6.length<=40
 vs:∀v∈n.Acc.a6,VI v/\v.a7<=n.Acc.g9
 kl:n.a5.length<=40
 ks:∀e∈n.a5,z5 e=true
 sq:0<=n.Seq/\n.Seq<=1000
 ql:n.f0.length<=4
 qs:∀e∈n.f0,z5 e=true/\e.i7=false
 ld:a0O n
 wt:c4P n
theorem b2R{α:Type}{l:List α}:((l.length:Int)==0)=true↔l=[]:=by
 rw [beq_iff_eq];constructor
 ·intro h;exact f5t (by omega)
 ·rintro rfl;rfl
theorem d7W{α:Type}{l:List α}:((l.length:Int)=0)↔l=[]:=by rw [<-b2R,beq_iff_eq]
theorem d2L{l:List Bool}{id:Int}(h:0<=id/\id<=2):a5q l id=true↔l.length=3/\l[id.toNat]?=some true:=by
 unfold a5q b5d;have e:idx l id=l[id.toNat]?:=by unfold idx;rw [if_pos h.1]
 rw [e,f5m,beq_iff_eq];constructor
 ·rintro ⟨h1,h2⟩
  refine ⟨by omega,?_⟩;cases hq:l[id.toNat]? with
  | none=>rw [hq] at h2;cases h2
  | some b=>rw [hq] at h2;simp at h2;rw [h2]
 ·rintro ⟨h1,h2⟩
  exact ⟨by omega,by rw [h2];rfl⟩
theorem c3R{n:j6}:a3S n=true↔n.d6=zE/\n.a6=[]:=by
 unfold a3S;rw [f5m,a45,b2R]
theorem d5Z{n:j6}(hid:0<=n.Id/\n.Id<=2):a06 n=true↔a0O n:=by
 have hown:(Z2 n.a7==n.Id)=true/\n.a7<=n.Acc.g9/\M2 n.i0=true↔Own n:=by
  rw [a80];constructor
  ·rintro ⟨h1,h2,h3⟩
   have hb:=K4.1 (d1k (K4.2 hid) h1);unfold Z2 at h1;rw [K4.2 hb] at h1;exact ⟨hb.1,hb.2,by simpa using h1,h2,h3.1,h3.2⟩
  ·intro h;refine ⟨?_,h.pr,h.bl,h.bs⟩;unfold Z2;rw [K4.2 ⟨h.b1,h.b2⟩];simpa using h.mod
 unfold a06 a0O;by_cases p0:n.d8=0
 ·simp only [p0,beq_self_eq_true,cond_true,f5m,c3R,beq_iff_eq,d7W];constructor
  ·rintro ⟨a,b,c,d,e⟩;exact .inl ⟨trivial,a,b,c,d,e⟩
  ·rintro (h|h|h|h)
   ·exact ⟨h.2.1,h.2.2.1,h.2.2.2.1,h.2.2.2.2.1,h.2.2.2.2.2⟩
   all_goals exact absurd h.1 (by omega)
 ·have q0:(n.d8==0)=false:=by simpa using p0
  simp only [q0,cond_false,f5m,decide_eq_true_eq];rw [<-and_assoc,<-and_assoc,and_assoc (a:=(Z2 n.a7==n.Id)=true),hown];by_cases p1:n.d8=1
  ·simp only [p1,beq_self_eq_true,cond_true,f5m,d2L hid,c3R];constructor
   ·rintro ⟨a,⟨b,c⟩,d,e⟩;exact .inr (.inl ⟨trivial,a,b,c,d,e⟩)
   ·rintro (h|h|h|h)
    ·exact absurd h.1 (by omega)
    ·exact ⟨h.2.1,⟨h.2.2.1,h.2.2.2.1⟩,h.2.2.2.2.1,h.2.2.2.2.2⟩
    all_goals exact absurd h.1 (by omega)
  ·have q1:(n.d8==1)=false:=by simpa using p1
   by_cases p2:n.d8=2
   ·have q2:(n.d8==2)=true:=by simpa using p2
    simp only [q1,q2,cond_true,cond_false,f5m,b2R,c3R];constructor
    ·rintro ⟨a,b,c,d⟩;exact .inr (.inr (.inl ⟨p2,a,b,c,d⟩))
    ·rintro (h|h|h|h)
     ·exact absurd h.1 (by omega)
     ·exact absurd h.1 (by omega)
     ·exact ⟨h.2.1,h.2.2.1,h.2.2.2.1,h.2.2.2.2⟩
     ·exact absurd h.1 (by omega)
   ·have q2:(n.d8==2)=false:=by simpa using p2
    by_cases p3:n.d8=3
    ·have q3:(n.d8==3)=true:=by simpa using p3
     simp only [q1,q2,q3,cond_true,cond_false,f5m,b2R,d2L hid,decide_eq_true_eq];constructor
     ·rintro ⟨a,b,c,⟨d,e⟩,f⟩;exact .inr (.inr (.inr ⟨p3,a,b,c,d,e,by omega⟩))
     ·rintro (h|h|h|h)
      ·exact absurd h.1 (by omega)
      ·exact absurd h.1 (by omega)
      ·exact absurd h.1 (by omega)
      ·exact ⟨h.2.1,h.2.2.1,h.2.2.2.1,⟨h.2.2.2.2.1,h.2.2.2.2.2.1⟩,by omega⟩
    ·have q3:(n.d8==3)=false:=by simpa using p3
     simp only [q1,q2,q3,cond_false,f6y,and_false,false_iff];rintro (h|h|h|h)<;>omega
theorem a9u{a b:n7}:(([a.b9,a.Seq]:List Int)==[b.b9,b.Seq])=true↔a=b:=by
 obtain ⟨a1,a2⟩:=a;obtain ⟨b1,b2⟩:=b;simp
theorem c6w{n:j6}:a3Y n=true↔c4P n:=by
 unfold a3Y c4P;cases n.i9
 ·simp only [cond_false,f5m,b2R,a45,f6y,false_and,false_or,true_and]
 ·simp only [cond_true,f5m,f6c,Bool.true_eq_false,false_and,or_false,true_and];rw [show (([n.b8.a0.b9,n.b8.a0.Seq]:List Int)==[n.Id,n.Seq])=true↔n.b8.a0=⟨n.Id,n.Seq⟩ from a9u (b:=⟨n.Id,n.Seq⟩)]
theorem a1n{n:j6}:D8 n=true↔NI n:=by
 unfold D8 O8 G0 b6L;simp only [f5m,K4,a80,List.all_eq_true,decide_eq_true_eq,f6c,decide_eq_false_iff_not];constructor
 ·rintro ⟨h1,⟨h2,h3,h4⟩,⟨h5,h6⟩,h7,h8,h9,h10,h11⟩
  exact ⟨h1,h2,h3.1,fun v hv=>⟨h3.2 v hv,by have:=h4 v hv;omega⟩,h5,h6,h7,by omega,h11,(d5Z h1).1 h9,c6w.1 h10⟩
 ·intro h;exact ⟨h.id,⟨h.pr,⟨h.vl,fun v hv=>(h.vs v hv).1⟩,fun v hv=>by have:=(h.vs v hv).2;omega⟩,⟨h.kl,h.ks⟩,h.sq,by have:=h.ql;omega,(d5Z h.id).2 h.ld,c6w.2 h.wt,h.qs⟩
theorem f3k{i:n8}(h:R0 i=true):b3c i:=by
 unfold R0 at h;by_cases k1:i.a8=1
 ·simp [k1,p9] at h;exact ⟨A4 (by omega),A4 (by omega),A4 (by omega),A4 (by omega)⟩
 by_cases k2:i.a8=2
 ·simp [k2,p9] at h;exact ⟨A4 (by omega),A4 (by omega),A4 (by omega),A4 (by omega)⟩
 by_cases k3:i.a8=3
 ·simp [k3,p9] at h;exact ⟨A4 (by omega),A4 (by omega),A4 (by omega),A4 (by omega)⟩
 by_cases k4:i.a8=4
 ·simp [k4,p9] at h;exact ⟨A4 (by omega),A4 (by omega),A4 (by omega),A4 (by omega)⟩
 by_cases k5:i.a8=5
 ·simp [k5,p9] at h;exact ⟨A4 (by omega),A4 (by omega),A4 (by omega),A4 (by omega)⟩
 by_cases k6:i.a8=6
 ·simp [k6,p9] at h;exact ⟨A4 (by omega),A4 (by omega),A4 (by omega),A4 (by omega)⟩
 by_cases k7:i.a8=7
 ·simp [k7] at h;exact ⟨A4 (by omega),A4 (by omega),A4 (by omega),A4 (by omega)⟩
 ·simp [k1,k2,k3,k4,k5,k6,k7] at h
theorem c8P{l:List n8}(h:E2 l=true):A3 32 b3c l:=by
 obtain ⟨h1,h2⟩:=c4B h;exact a0k (by omega) fun i hi=>f3k (h2 i hi)
theorem a0O.phase{n:j6}(h:a0O n):0<=n.d8/\n.d8<=3:=by
 rcases h with h|h|h|h<;>omega
theorem a0O.bal{n:j6}(h:a0O n):0<=n.a7/\n.a7<=3000:=by
 rcases h with h|h|h|h
 ·omega
 all_goals exact ⟨by have:=h.2.1.b1;omega,h.2.1.b2⟩
theorem a0O.best{n:j6}(h:a0O n):n.i0.length<=40/\∀v∈n.i0,VI v:=by
 rcases h with h|h|h|h
 ·rw [h.2.2.2.1];exact ⟨by simp,by simp⟩
 all_goals exact ⟨h.2.1.bl,h.2.1.bs⟩
theorem a0O.from3{n:j6}(h:a0O n):n.c9.length<=3/\n.a6.length<=3/\F3 n.d6:=by
 rcases h with h|h|h|h
 ·rw [h.2.2.1,h.2.2.2.2.2,h.2.2.2.2.1];exact ⟨by simp,by simp,a02⟩
 ·rw [h.2.2.2.2.2,h.2.2.2.2.1];exact ⟨by omega,by simp,a02⟩
 ·rw [h.2.2.1,h.2.2.2.1,h.2.2.2.2];exact ⟨by simp,by simp,a02⟩
 ·rw [h.2.2.1];exact ⟨by simp,by omega,a2K h.2.2.2.1⟩
theorem NI.ok{n:j6}(h:NI n):S4 n:=by
 have hf:=h.ld.from3;have hb:=h.ld.best;have hw:F3 n.b8/\A3 32 b3c n.i6:=by
  rcases h.wt with q|q
  ·exact ⟨a2K q.2.2.1,c8P q.2.1⟩
  ·rw [q.2.1,q.2.2];exact ⟨a02,U6⟩
 have hph:=h.ld.phase;have hbl:=h.ld.bal;have h1:=h.id;have h2:=h.pr;have h3:=h.sq;have h4:=h.vl;have h5:=h.kl;have h6:=h.ql;exact ⟨A4 (by omega),⟨A4 (by omega),a31 (by omega) fun v hv=>(h.vs v hv).1⟩,d1t (by omega) h.ks,A4 (by omega),A4 (by omega),A4 (by omega),
  a0k (by omega) (fun _ _=>trivial),a31 (by omega) hb.2,hf.2.2,a0k (by omega) (fun _ _=>trivial),hw.2,hw.1,d1t (by omega) fun e he=>(h.qs e he).1⟩
theorem NI.list{n:j6}(h:NI n):G0 n.a5=true:=by
 unfold G0;simp only [f5m,decide_eq_true_eq,List.all_eq_true];exact ⟨h.kl,h.ks⟩
def V0(m:l8):Prop :=
 ((m.a8=1\/m.a8=4)/\(1<=m.a7/\m.a7<=3000)/\m.i4=zE/\m.a6=[])\/
 (m.a8=2/\(1<=m.a7/\m.a7<=3000)/\m.i4=zE/\(m.a6.length<=40/\∀v∈m.a6,VI v)/\m.g8+m.a6.length<=40)\/
 (m.a8=3/\(1<=m.a7/\m.a7<=3000)/\m.g8<40/\z5 m.i4=true/\m.a6=[])\/
 (m.a8=5/\m.a7=0/\m.g8<40/\z5 m.i4=true/\m.a6=[])\/
 (m.a8=6/\(1<=m.a7/\m.a7<=3000)/\m.g8=0/\m.i4=zE/\m.a6=[])\/
 (m.a8=7/\m.a7=0/\m.g8=0/\z5 m.i4=true/\m.i4.i7=false/\m.a6=[])\/
 (m.a8=8/\m.a7=0/\m.i4=zE/\m.a6=[])
structure MI(m:l8):Prop where
 fr:0<=m.c9/\m.c9<=2
 to:0<=m.To/\m.To<=2
 ne:m.c9≠m.To
 sl:0<=m.g8/\m.g8<=40
 kd:V0 m
theorem d1z{m:l8}:Q1 m=true↔MI m:=by
 have hk:(0<=m.g8/\m.g8<=40)->(a7c m=true↔V0 m):=by
  intro hs;have hw:M2 m.a6=true->m8 (m.g8+(m.a6.length:Int))=m.g8+(m.a6.length:Int):=by
   intro hv;have:=(a80.1 hv).1;exact C2 (by omega) (by omega)
  unfold a7c V0;simp only [Bool.cond_eq_ite];by_cases k1:m.a8=1
  ·simp [k1,K4,a45]
  by_cases k4:m.a8=4
  ·simp [k4,K4,a45]
  by_cases k2:m.a8=2
  ·simp only [k2,K4,a45,beq_self_eq_true,if_true,f5m,decide_eq_true_eq];simp only [show ((2:Int)==1)=false from rfl,show ((2:Int)==4)=false from rfl,f6y,if_false,f5m,K4,a45,decide_eq_true_eq];constructor
   ·rintro ⟨a,b,c,d⟩
    rw [hw c] at d;exact .inr (.inl ⟨trivial,a,b,a80.1 c,d⟩)
   ·rintro (h|h|h|h|h|h|h)
    ·omega
    ·have c:=a80.2 h.2.2.2.1;exact ⟨h.2.1,h.2.2.1,c,by rw [hw c];exact h.2.2.2.2⟩
    all_goals exact absurd h.1 (by omega)
  by_cases k3:m.a8=3
  ·simp [k3,K4]
  by_cases k5:m.a8=5
  ·simp [k5]
  by_cases k6:m.a8=6
  ·simp [k6,K4,a45]
  by_cases k7:m.a8=7
  ·simp [k7]
  by_cases k8:m.a8=8
  ·simp [k8,a45]
  ·simp [k1,k2,k3,k4,k5,k6,k7,k8]
 unfold Q1;simp only [f5m,K4,f6c,beq_eq_false_iff_ne];constructor
 ·rintro ⟨a,b,c,d,e⟩;exact ⟨a,b,c,d,(hk d).1 e⟩
 ·intro h;exact ⟨h.fr,h.to,h.ne,h.sl,(hk h.sl).2 h.kd⟩
theorem MI.ok{m:l8}(h:MI m):a0j m:=by
 have hf:=h.fr;have ht:=h.to;have hs:=h.sl;have hk:I8 m.a8/\I8 m.a7/\F3 m.i4/\A3 96 T7 m.a6:=by
  rcases h.kd with q|q|q|q|q|q|q
  ·rw [q.2.2.1,q.2.2.2];exact ⟨A4 (by omega),A4 (by omega),a02,U6⟩
  ·rw [q.2.2.1];exact ⟨A4 (by omega),A4 (by omega),a02,a31 (by omega) q.2.2.2.1.2⟩
  ·rw [q.2.2.2.2];exact ⟨A4 (by omega),A4 (by omega),a2K q.2.2.2.1,U6⟩
  ·rw [q.2.2.2.2];exact ⟨A4 (by omega),A4 (by omega),a2K q.2.2.2.1,U6⟩
  ·rw [q.2.2.2.2,q.2.2.2.1];exact ⟨A4 (by omega),A4 (by omega),a02,U6⟩
  ·rw [q.2.2.2.2.2];exact ⟨A4 (by omega),A4 (by omega),a2K q.2.2.2.1,U6⟩
  ·rw [q.2.2.1,q.2.2.2];exact ⟨A4 (by omega),A4 (by omega),a02,U6⟩
 exact ⟨hk.1,A4 (by omega),A4 (by omega),hk.2.1,A4 (by omega),hk.2.2.1,hk.2.2.2⟩
structure WI(w:m5):Prop where
 nl:w.a9.length=3
 ns:∀(i:Nat) (n:j6),w.a9[i]?=some n->n.Id=(i:Int)/\NI n
 ml:w.c8.length<=40
 ms:∀m∈w.c8,MI m
 al:w.d7.length<=60
 aq:∀a∈w.d7,a0m a=true
 tl:w.Told.length<=60
 ts:∀t∈w.Told,S0 t=true
theorem a4u{w:m5}:C9 w=true↔WI w:=by
 unfold C9;simp only [f5m,beq_iff_eq,decide_eq_true_eq,List.all_eq_true,f6u,d1z];constructor
 ·rintro ⟨h1,h2,h3,h4,h5,h6,h7,h8⟩
  refine ⟨by omega,?_,by omega,h6,by omega,h7,by omega,h8⟩;intro i n hn;have hi:=(f5o.1 hn).1;have:=h5 i hi;unfold a3z at this;rw [hn] at this;simp only [f5m,beq_iff_eq,a1n] at this;exact this
 ·intro h;have h2:=h.ml;have h3:=h.al;have h4:=h.tl;refine ⟨by have:=h.nl;omega,by omega,by omega,by omega,?_,h.ms,h.aq,h.ts⟩;intro i hi;unfold a3z;rw [f5j hi];simp only [f5m,beq_iff_eq,a1n];exact h.ns i _ (f5j hi)
theorem f1S{a:x6}(h:a0m a=true):d0B a:=by
 unfold a0m at h;simp only [f5m,K4] at h;exact ⟨⟨A4 (by omega),A4 (by omega)⟩,c8P h.2⟩
theorem e2R{t:n5}(h:S0 t=true):c7b t:=by
 unfold S0 at h;simp only [f5m,K4] at h;exact ⟨A4 (by omega),⟨A4 (by omega),A4 (by omega)⟩,A4 (by omega),A4 (by omega)⟩
theorem WI.ok{w:m5}(h:WI w):R7 w:=by
 have h1:=h.nl;have h2:=h.ml;have h3:=h.al;have h4:=h.tl;refine ⟨a0k (by omega) ?_,a0k (by omega) fun m hm=>(h.ms m hm).ok,a0k (by omega) fun a ha=>f1S (h.aq a ha),a0k (by omega) fun t ht=>e2R (h.ts t ht)⟩;intro n hn;obtain ⟨i,hi⟩:=f6T hn;exact (h.ns i n hi).2.ok
theorem b5i(m o:l8):a5u m o=some [L0 m o]:=rfl
theorem c6d(n:j6)(b:Int):b2e n b=some (N0 n b):=by
 unfold b2e N0;cases n.d8 != 0
 ·rfl
 ·simp only [cond_true,f5v];cases decide (b>n.a7)<;>rfl
theorem e3n(n:j6)(b:Int):b27 n b=some (N0 n b):=by
 unfold b27 N0;cases n.d8 != 0
 ·rfl
 ·simp only [cond_true,f5v];cases decide (b>n.a7)<;>rfl
theorem c98(n:j6)(b:Int):(N0 n b).Acc=n.Acc:=by
 unfold N0;cases n.d8 != 0&&decide (b>n.a7)<;>rfl
theorem a4m{a x:z0}{b:Int}(h:I3 a b=some x):x=⟨b,a.a6⟩/\1<=b/\b<=3000/\a.g9<=b:=by
 unfold I3 a9V at h;cases hq:p9 b 1 3000&&decide (a.g9<=b)
 ·rw [hq] at h;cases h
 ·rw [hq] at h;simp only [f5m,K4,decide_eq_true_eq] at hq;injection h with h;exact ⟨h.symm,hq.1.1,hq.1.2,hq.2⟩
theorem c3I{α:Type}(l:List α)(k:Nat):(l.drop k).take (l.length-k)=l.drop k:=by
 rw [f5V];simp
theorem f1n{n:j6}(h:S4 n){m:l8}(hs:0<=m.g8):b7L n m=some (a1v n m):=by
 unfold b7L a1v;rw [c3r,b9o];cases hp:I3 n.Acc m.a7 with
 | none=>rfl
 | some a =>
  obtain ⟨rfl,_⟩:=a4m hp;simp only [a4D,f5i,f5n,cond_false,e3n];have ha:=c98 {n with Acc:=⟨m.a7,n.Acc.a6⟩} m.a7;have hy:∀y:j6,y.Acc=⟨m.a7,n.Acc.a6⟩->(j6.mk y.Id (z0.mk y.Acc.g9 n.Acc.a6) y.a5 y.Seq y.d8 y.a7 y.c9 y.i0 y.d6 y.a6 y.i9 y.i6 y.b8 y.f0)=y:=by
   intro y hy;obtain ⟨y1,y2,y3,y4,y5,y6,y7,y8,y9,y10,y11,y12,y13,y14⟩:=y;simp only at hy;subst hy;rfl
  rw [hy _ ha];obtain ⟨k,hk⟩:∃k:Nat,m.g8=(k:Int):=⟨m.g8.toNat,by omega⟩
  rw [hk,f5I,c3I];cases hd:decide ((k:Int)<(n.Acc.a6.length:Int))
  ·simp only [cond_false,b5i,f5i];rw [f5F (by simp at hd;omega)]
  ·simp only [cond_true];rw [u7 (by simp at hd;omega),e2e (f3a h.2.1.2 (by simp) fun x hx=>f6j hx),f5i,b5i,f5i]
theorem e8b{n:j6}{m:l8}(hm:a0j m):b5t n m=some (a1D n m):=by
 have he:F3 m.i4:=hm.2.2.2.2.2.1;unfold b5t a1D;rw [d6A he,d37 he];cases K5 n.Acc m.a7 m.g8 m.i4 with
 | none=>rfl
 | some a=>simp only [a4D,f5i,f5n,cond_false,c6d,b5i]
theorem b7Q{l:List Bool}(h:l.length<=3):s9 l:=by unfold s9;omega
theorem e3h{n:j6}(h:NI n){m:l8}(hm:MI m)(hk:m.a8=2):b6s n m=some (a1z n m):=by
 have hkd:(m.a6.length<=40/\∀v∈m.a6,VI v)/\m.g8+m.a6.length<=40:=by
  rcases hm.kd with q|q|q|q|q|q|q
  ·omega
  ·exact ⟨q.2.2.2.1,q.2.2.2.2⟩
  all_goals exact absurd q.1 (by omega)
 have hs:=hm.sl;have hf:=hm.fr;unfold b6s a1z;by_cases p1:n.d8=1
 ·rw [show (n.d8 != 1)=false by simp [p1],f5R];simp only [cond_false];cases hb:m.a7 != n.a7
  ·simp only [cond_false];have hl:n.c9.length=3/\Own n:=by
    rcases h.ld with q|q|q|q
    ·omega
    ·exact ⟨q.2.2.1,q.2.1⟩
    all_goals exact absurd q.1 (by omega)
   obtain ⟨f,hff⟩:∃f:Nat,m.c9=(f:Int):=⟨m.c9.toNat,by omega⟩
   have hvo:A3 96 T7 (f5k m.g8.toNat v0++m.a6):=a31 (by simp;omega) (by
    intro v hv;rcases List.mem_append.1 hv with q|q
    ·rw [(f5Z.1 q).2];exact .inl rfl
    ·exact hkd.1.2 v q)
   have hz:∀v∈f5k m.g8.toNat v0++m.a6,v.a7<=0->v=v0:=by
    intro v hv hb;rcases List.mem_append.1 hv with q|q
    ·exact (f5Z.1 q).2
    ·exact (hkd.1.2 v q).zero hb
   rw [hff,t9 (show f<n.c9.length by omega),f5i,e8s (a31 (by omega) hkd.1.2) hkd.1.1 hs,f5i,e0i (a31 (by have:=hl.2.bl;omega) hl.2.bs) hvo (by have:=hl.2.bl;omega) (by simp;omega) hz,f5i,d0F (b7Q (by simp;omega)),f5i];cases htw:M8 (n.c9.set (f:Int).toNat true)
   ·simp only [f5J,cond_true,cond_false]
   ·simp only [f5n,cond_false,cond_true];have hbl:=a8P n.i0 (f5k m.g8.toNat v0++m.a6);have hob:=hl.2.bl;have hlen:(f5k m.g8.toNat v0++m.a6).length<=40:=by simp;omega
    obtain ⟨h1,h2,h3,h4,h5,h6,h7,h8,h9,h10,h11,h12,h13⟩:=h.ok;rw [b2I (n:=⟨n.Id,n.Acc,n.a5,n.Seq,2,n.a7,[],D5 n.i0 (f5k m.g8.toNat v0++m.a6),n.d6,n.a6,n.i9,n.i6,n.b8,n.f0⟩) ⟨h1,h2,h3,h4,A4 (n:=2) (by omega),h6,U6,a31 (by show (D5 n.i0 (f5k m.g8.toNat v0++m.a6)).length<=1000;omega) (fun v hv=>(a9C hv).elim (fun q=>hl.2.bs v q) (fun q=>(List.mem_append.1 q).elim (fun q=>by rw [(f5Z.1 q).2];exact .inl rfl) (hkd.1.2 v))),h9,h10,h11,h12,h13⟩ h.id,f5i]
  ·rfl
 ·rw [show (n.d8 != 1)=true by simpa using p1];rfl
theorem a0F(id:Int)(m:l8):(I4 id m).length<=3:=by
 unfold I4;rw [f5Y];exact List.length_filter_le _ _
theorem a9i(n:j6):(M1 n).2.length<=3:=by
 unfold M1 a6M;cases n.d8 != 2||decide (40<=n.a5.length)
 ·simp only [cond_false];cases a0D n with
  | mk x o =>
   cases o with
   | none=>simp
   | some e =>
    simp only;cases K5 x.Acc x.a7 (x.a5.length:Int) e with
    | none=>simp
    | some a=>exact a0F _ _
 ·simp
theorem f4p{n:j6}(h:NI n){m:l8}(hm:MI m):b6l n m=some (a2y n m):=by
 have hf:=hm.fr;unfold b6l a2y;by_cases p3:n.d8=3
 ·rw [show (n.d8 != 3)=false by simp [p3],f5R];simp only [cond_false];cases hb:m.a7 != n.a7
  ·simp only [cond_false,f5R];cases hs:m.g8 != (n.a5.length:Int)
   ·simp only [cond_false];have hl:n.a6.length=3/\z5 n.d6=true/\n.a5.length<40:=by
     rcases h.ld with q|q|q|q
     ·omega
     ·omega
     ·omega
     ·exact ⟨q.2.2.2.2.1,q.2.2.2.1,q.2.2.2.2.2.2⟩
    obtain ⟨f,hff⟩:∃f:Nat,m.c9=(f:Int):=⟨m.c9.toNat,by omega⟩
    have hcur:=a2K hl.2.1;rw [hff,t9 (show f<n.a6.length by omega),f5i,d0F (b7Q (by simp;omega)),f5i];cases htw:M8 (n.a6.set (f:Int).toNat true)
    ·simp only [f5J,cond_true,cond_false]
    ·simp only [f5n,cond_false,cond_true];obtain ⟨h1,h2,h3,h4,h5,h6,h7,h8,h9,h10,h11,h12,h13⟩:=h.ok;rw [a0X hcur,f5i,a5T h.id (a7R (A4 (by omega)) a0h (A4 (by omega)) hcur U6),f5i,
      d2H (n:={n with a6:=n.a6.set (f:Int).toNat true}) ⟨h1,h2,h3,h4,h5,h6,h7,h8,h9,a0k (by simp;omega) (fun _ _=>trivial),h11,h12,h13⟩ h.id h.list hl.2.2 hcur hl.2.1,f5i,u7]
     have e1:=a0F n.Id ⟨5,0,0,0,(n.a5.length:Int),n.d6,[]⟩;have e2:=a9i (U5 (E1 {n with a6:=n.a6.set (f:Int).toNat true} n.d6)).1;have e3:(Y2 {n with a6:=n.a6.set (f:Int).toNat true} n.d6).2.1.length<=3:=e2;omega
   ·rfl
  ·rfl
 ·rw [show (n.d8 != 3)=true by simpa using p3];rfl
theorem e1S{n:j6}(h:NI n){m:l8}(hm:MI m)(hk:m.a8=5):b6x n m=some (a2A n m):=by
 have hkd:m.g8<40/\z5 m.i4=true:=by
  rcases hm.kd with q|q|q|q|q|q|q
  ·omega
  ·omega
  ·omega
  ·exact ⟨q.2.2.1,q.2.2.2.1⟩
  all_goals exact absurd q.1 (by omega)
 unfold b6x a2A;cases h1:decide (m.g8<(n.a5.length:Int))
 ·cases h2:decide (m.g8>(n.a5.length:Int))
  ·simp only [cond_false];have hl:n.a5.length<40:=by simp at h1 h2;omega
   rw [d2H h.ok h.id h.list hl (a2K hkd.2) hkd.2,f5i]
  ·rfl
 ·rfl
theorem e7w{n:j6}(h:NI n){m:l8}(hm:MI m):b67 n m=some (a1w n m):=by
 have he:F3 m.i4:=hm.ok.2.2.2.2.2.1;have hql:=h.ql;unfold b67 a1w;rw [show decide ((n.f0.length:Int)>=4)=decide (4<=n.f0.length) by simp;omega,b6I (h.ok.2.2.1.fits (by decide)),a0X he];cases n.d8==0
 ·simp only [cond_false,f5R];cases decide (4<=n.f0.length)
  ·simp only [cond_false,f5R,f5i];cases M9 n.a5 m.i4.a0
   ·obtain ⟨h1,h2,h3,h4,h5,h6,h7,h8,h9,h10,h11,h12,h13⟩:=h.ok;simp only [cond_false];rw [u7 (by omega),b2I (n:={n with f0:=n.f0++[m.i4]}) ⟨h1,h2,h3,h4,h5,h6,h7,h8,h9,h10,h11,h12,a0k (by simp;omega) (by
     intro x hx;rcases List.mem_append.1 hx with q|q
     ·exact h13.2 x q
     ·rw [f5p.1 q];exact he)⟩ h.id,f5i]
   ·rfl
  ·rfl
 ·rfl
theorem b7x{n:j6}(m:l8){k:Nat}(hk:k<n.a5.length):a1o n m k=[L0 m ⟨5,0,0,0,(k:Int),n.a5[k],[]⟩]:=by
 unfold a1o;rw [f5j hk]
theorem c6k{n:j6}(h:NI n)(m:l8):∀(d k:Nat) (o:List l8),n.a5.length-k=d->o.length<=k->p8 (fun s:(List l8)×Int=>a6J n m s.1 s.2) (o,(k:Int))=some (.brk (o++((f5q d).map fun j=>a1o n m (k+j)).flatten))
 | 0,k,o,hd,ho=>by
  have hkl:=h.kl;refine (C6 (b:=o) ?_).trans (by simp);show a6J n m o (k:Int)=_
  unfold a6J;rw [show decide ((k:Int)<(n.a5.length:Int))=false by simp;omega];rfl
 | d+1,k,o,hd,ho=>by
  have hkl:=h.kl;have hlt:k<n.a5.length:=by omega
  have hb:a6J n m o (k:Int)=some (.nxt (o++a1o n m k,((k+1:Nat):Int))):=by
   unfold a6J;rw [x8 _ k hlt,t9 hlt,cond_true,f5i,a0X (a2K (h.ks _ (f5l hlt))),f5i,b5i,f5i,u7 (by simp;omega),b7x m hlt,E9 (h.ok.2.2.1.fits (by decide)) hlt]
  rw [E3 (body:=fun s:(List l8)×Int=>a6J n m s.1 s.2) (s:=(o,(k:Int))) hb,c6k h m d (k+1) _ (by omega) (by rw [b7x m hlt];simp;omega)];rw [List.range_succ_eq_map,f5Q,f5L,f5B,f7h];simp only [f6M,Function.comp_def,Nat.succ_eq_add_one,Nat.add_assoc,Nat.add_comm 1]
theorem f0d{n:j6}(h:NI n){m:l8}(hs:0<=m.g8):b6N n m=some (a4a n m,n):=by
 unfold b6N a4a;obtain ⟨k,hk⟩:∃k:Nat,m.g8=(k:Int):=⟨m.g8.toNat,by omega⟩
 rw [hk];have:=c6k h m (n.a5.length-k) k [] rfl (by simp);rw [this];rfl
theorem e5i{n:j6}(h:NI n){m:l8}(hm:MI m):b6G n m=some (W5 n m):=by
 unfold b6G W5;rw [f1n h.ok hm.sl.1,e8b hm.ok,f4p h hm,e7w h hm,f0d h hm.sl.1,b9o];by_cases k1:m.a8=1
 ·simp [k1];rfl
 rw [show (m.a8==1)=false by simpa using k1];by_cases k2:m.a8=2
 ·rw [e3h h hm k2];simp [k2];rfl
 rw [show (m.a8==2)=false by simpa using k2];by_cases k3:m.a8=3
 ·simp [k3];rfl
 rw [show (m.a8==3)=false by simpa using k3];by_cases k4:m.a8=4
 ·simp [k4];rfl
 rw [show (m.a8==4)=false by simpa using k4];by_cases k5:m.a8=5
 ·rw [e1S h hm k5];simp [k5];rfl
 rw [show (m.a8==5)=false by simpa using k5];by_cases k6:m.a8=6
 ·rw [show (m.a8==6)=true by simpa using k6];simp only [cond_true,cond_false,f5i];cases I3 n.Acc m.a7<;>simp only [c6d,f5i,Option.getD_none,f6D]<;>rfl
 rw [show (m.a8==6)=false by simpa using k6];by_cases k7:m.a8=7
 ·simp [k7];rfl
 rw [show (m.a8==7)=false by simpa using k7];cases m.a8==8
 ·rfl
 ·simp only [cond_true,cond_false,f5i];rw [u7 trivial,u7 trivial,u7 trivial,u7 trivial,u7 trivial];rfl
theorem b7Z{a x:z0}{b s:Int}{e:m4}(h:K5 a b s e=some x):∃k:Nat,s=(k:Int)/\k<40/\z5 e=true/\1<=b/\b<=3000/\a.g9<=b/\x=⟨b,(T4 a.a6 (k+1)).set k ⟨b,e⟩⟩:=by
 unfold K5 at h;cases hq:p9 s 0 39&&z5 e
 ·rw [hq] at h;cases h
 ·rw [hq,cond_true] at h;simp only [f5m,K4] at hq;cases hp:I3 a b with
  | none=>rw [hp] at h;cases h
  | some y =>
   rw [hp] at h;obtain ⟨rfl,h1,h2,h3⟩:=a4m hp;injection h with h;refine ⟨s.toNat,by omega,by omega,hq.2,h1,h2,h3,h.symm⟩
theorem b5p{a:z0}{b:Int}(h1:1<=b)(h2:b<=3000)(h3:a.g9<=b):I3 a b=some ⟨b,a.a6⟩:=by
 unfold I3 a9V;rw [K4.2 ⟨h1,h2⟩,show decide (a.g9<=b)=true by simpa using h3];rfl
theorem e9R{a:z0}{b:Int}{k:Nat}{e:m4}(hk:k<40)(he:z5 e=true)(h1:1<=b)(h2:b<=3000)(h3:a.g9<=b):K5 a b (k:Int) e=some ⟨b,(T4 a.a6 (k+1)).set k ⟨b,e⟩⟩:=by
 unfold K5;rw [K4.2 (show 0<=(k:Int)/\(k:Int)<=39 by omega),he,b5p h1 h2 h3];rfl
theorem c3y{vs:List m7}{n:Nat}{v:m7}(h:v∈T4 vs n):v∈vs\/v=v0:=by
 rcases List.mem_append.1 h with q|q
 ·exact .inl q
 ·exact .inr (f5Z.1 q).2
theorem d5y{α:Type}{l:List α}{k:Nat}{x v:α}(h:v∈l.set k x):v∈l\/v=x:=List.mem_or_eq_of_mem_set h
theorem NI.queue{n:j6}(h:NI n){q:List m4}(hl:q.length<=4)(hm:∀e∈q,z5 e=true/\e.i7=false):NI {n with f0:=q} :=
 ⟨h.id,h.pr,h.vl,h.vs,h.kl,h.ks,h.sq,hl,hm,h.ld,h.wt⟩
theorem NI.down{n:j6}(h:NI n):NI (a3v n) :=
 ⟨h.id,h.pr,h.vl,h.vs,h.kl,h.ks,h.sq,h.ql,h.qs,.inl ⟨rfl,rfl,rfl,rfl,rfl,rfl⟩,h.wt⟩
theorem NI.freeN{n:j6}(h:NI n):NI (a6C n) :=
 ⟨h.id,h.pr,h.vl,h.vs,h.kl,h.ks,h.sq,h.ql,h.qs,h.ld,.inr ⟨rfl,rfl,rfl⟩⟩
theorem NI.acc{n:j6}(h:NI n){a:z0}(h1:0<=a.g9/\a.g9<=3000)(h2:a.a6.length<=40)(h3:∀v∈a.a6,VI v/\v.a7<=a.g9)(h4:n.Acc.g9<=a.g9):NI {n with Acc:=a}:=by
 have ho:Own n->Own {n with Acc:=a}:=fun o=>⟨o.b1,o.b2,o.mod,f6d o.pr h4,o.bl,o.bs⟩
 refine ⟨h.id,h1,h2,h3,h.kl,h.ks,h.sq,h.ql,h.qs,?_,h.wt⟩;rcases h.ld with q|q|q|q
 ·exact .inl q
 ·exact .inr (.inl ⟨q.1,ho q.2.1,q.2.2⟩)
 ·exact .inr (.inr (.inl ⟨q.1,ho q.2.1,q.2.2⟩))
 ·exact .inr (.inr (.inr ⟨q.1,ho q.2.1,q.2.2⟩))
theorem NI.promise{n:j6}(h:NI n){b:Int}{x:z0}(hp:I3 n.Acc b=some x):NI {n with Acc:=x}:=by
 obtain ⟨rfl,h1,h2,h3⟩:=a4m hp;exact h.acc ⟨by simp only;omega,h2⟩ h.vl (fun v hv=>⟨(h.vs v hv).1,f6d (h.vs v hv).2 h3⟩) h3
theorem d7B{vs:List m7}{p b:Int}{k:Nat}{e:m4}(hk:k<40)(hl:vs.length<=40)(hv:∀v∈vs,VI v/\v.a7<=p)(he:z5 e=true)(h1:1<=b)(h2:b<=3000)(h3:p<=b) :
  ((T4 vs (k+1)).set k ⟨b,e⟩).length<=40/\∀v∈(T4 vs (k+1)).set k ⟨b,e⟩,VI v/\v.a7<=b:=by
 refine ⟨by rw [f6B,b48];omega,fun v hm => ?_⟩;rcases d5y hm with q|q
 ·rcases c3y q with q|q
  ·exact ⟨(hv v q).1,f6d (hv v q).2 h3⟩
  ·rw [q];exact ⟨.inl rfl,by show (0:Int)<=b;omega⟩
 ·rw [q];exact ⟨.inr ⟨h1,h2,he⟩,f5H _⟩
theorem NI.cast{n:j6}(h:NI n){b s:Int}{e:m4}{x:z0}(hc:K5 n.Acc b s e=some x):NI {n with Acc:=x}:=by
 obtain ⟨k,rfl,hk,he,h1,h2,h3,rfl⟩:=b7Z hc;obtain ⟨a,b'⟩:=d7B hk h.vl h.vs he h1 h2 h3;exact h.acc ⟨by simp only;omega,h2⟩ a b' h3
theorem NI.yield{n:j6}(h:NI n)(b:Int):NI (N0 n b):=by
 unfold N0;cases n.d8 != 0&&decide (b>n.a7)
 ·exact h
 ·exact h.down
theorem c43{id:Int}(h:0<=id/\id<=2):(a03 id).length=3/\(a03 id)[id.toNat]?=some true:=by
 unfold a03;refine ⟨by simp,?_⟩;rw [f6l (by simp;omega)]
theorem a2p.right{n:j6}(h:NI n){e:m4}(hn:a2p n e):z5 e=true:=by
 cases hn with
 | best v hv hb=>exact (h.ld.best.2 v (f5w hv)).pos hb
 | gap=>rfl
 | want hb =>
  rcases h.wt with q|q
  ·exact q.2.2.1
  ·rw [hb] at q;cases q.1
 | queue e hq=>exact (h.qs e hq).1
theorem a3y{id:Int}{m x:l8}(hid:0<=id/\id<=2)(h:x∈I4 id m):∃t:Int,0<=t/\t<=2/\t≠id/\x={m with c9:=id,To:=t}:=by
 unfold I4 at h;obtain ⟨t,ht,rfl⟩:=List.mem_map.1 h;obtain ⟨h1,h2⟩:=List.mem_filter.1 ht;refine ⟨t,?_,?_,by simpa using h2,rfl⟩;all_goals simp at h1;omega
theorem a5K{id:Int}{m:l8}(hid:0<=id/\id<=2)(hk:V0 m)(hs:0<=m.g8/\m.g8<=40):∀x∈I4 id m,MI x:=by
 intro x hx;obtain ⟨t,h1,h2,h3,rfl⟩:=a3y hid hx;exact ⟨hid,⟨h1,h2⟩,fun q=>h3 q.symm,hs,hk⟩
theorem b1j{m o:l8}(hm:MI m)(hk:V0 o)(hs:0<=o.g8/\o.g8<=40):MI (L0 m o):=⟨hm.to,hm.fr,fun q=>hm.ne q.symm,hs,hk⟩
theorem V0.one{k b s:Int}(hk:k=1\/k=4)(hb:1<=b/\b<=3000):V0 ⟨k,0,0,b,s,zE,[]⟩:=.inl ⟨hk,hb,rfl,rfl⟩
theorem V0.accept{b s:Int}{e:m4}(hb:1<=b/\b<=3000)(hs:s<40)(he:z5 e=true):V0 ⟨3,0,0,b,s,e,[]⟩:=.inr (.inr (.inl ⟨rfl,hb,hs,he,rfl⟩))
theorem V0.chosen{s:Int}{e:m4}(hs:s<40)(he:z5 e=true):V0 ⟨5,0,0,0,s,e,[]⟩:=.inr (.inr (.inr (.inl ⟨rfl,rfl,hs,he,rfl⟩)))
theorem V0.refuse{b:Int}(hb:1<=b/\b<=3000):V0 ⟨6,0,0,b,0,zE,[]⟩:=.inr (.inr (.inr (.inr (.inl ⟨rfl,hb,rfl,rfl,rfl⟩))))
theorem V0.ask{e:m4}(he:z5 e=true)(hn:e.i7=false):V0 ⟨7,0,0,0,0,e,[]⟩:=.inr (.inr (.inr (.inr (.inr (.inl ⟨rfl,rfl,rfl,he,hn,rfl⟩)))))
theorem V0.need{s:Int}:V0 ⟨8,0,0,0,s,zE,[]⟩:=.inr (.inr (.inr (.inr (.inr (.inr ⟨rfl,rfl,rfl,rfl⟩)))))
structure S6(n:j6)(x:j6×List l8):Prop where
 ni:NI x.1
 id:x.1.Id=n.Id
 ms:∀m∈x.2,MI m
theorem S6.same{n:j6}(h:NI n):S6 n (n,[]):=⟨h,rfl,by simp⟩
theorem S6.to{n n':j6}(hi:n'.Id=n.Id){x:j6×List l8}(h:S6 n' x):S6 n x:=⟨h.ni,h.id.trans hi,h.ms⟩
theorem a99{n:j6}(h:NI n):S6 n (M1 n):=by
 unfold M1;cases hc:n.d8 != 2||decide (40<=n.a5.length)
 ·simp only [cond_false];simp only [f6s,bne_eq_false_iff_eq,decide_eq_false_iff_not] at hc;obtain ⟨q,hq,hql,hqm,hqe⟩:=b01 n;cases hx:a0D n with
  | mk x o =>
  rw [hx] at hq hqe;have hq:x={n with f0:=q}:=hq;have hn:NI {n with f0:=q}:=h.queue (by have:=h.ql;omega) fun e he=>h.qs e (hqm e he)
  subst hq;cases o with
  | none=>exact ⟨hn,rfl,by simp⟩
  | some e =>
   have he:=(hqe e rfl).right h;simp only [a6M];have ho:Own n:=by
    rcases h.ld with q|q|q|q
    ·omega
    ·omega
    ·exact q.2.1
    ·omega
   cases hcs:K5 n.Acc n.a7 (n.a5.length:Int) e with
   | none=>exact ⟨hn.down,rfl,by simp⟩
   | some a =>
    have hac:=hn.cast (b:=n.a7) (s:=(n.a5.length:Int)) (e:=e) hcs;obtain ⟨k,hk,hk40,_,h1,h2,h3,rfl⟩:=b7Z hcs;refine ⟨⟨h.id,hac.pr,hac.vl,hac.vs,h.kl,h.ks,h.sq,hn.ql,hn.qs,?_,h.wt⟩,rfl,a5K h.id (.accept ⟨h1,h2⟩ (by omega) he) (by simp only;omega)⟩;refine .inr (.inr (.inr ⟨rfl,⟨ho.b1,ho.b2,ho.mod,f5H _,ho.bl,ho.bs⟩,?_,he,(c43 h.id).1,(c43 h.id).2,by simp only;omega⟩));rcases h.ld with q|q|q|q
    ·omega
    ·omega
    ·exact q.2.2.1
    ·omega
 ·exact .same h
theorem NI.know{n:j6}(h:NI n){e:m4}(he:z5 e=true)(hl:n.a5.length<40):NI (E1 n e):=by
 have hks:∀x∈n.a5++[e],z5 x=true:=by
  intro x hx;rcases List.mem_append.1 hx with q|q
  ·exact h.ks x q
  ·rw [f5p.1 q];exact he
 have hkl:(n.a5++[e]).length<=40:=by simp;omega
 unfold E1;by_cases p3:n.d8=3
 ·rw [show (n.d8==3)=true by simpa using p3];refine ⟨h.id,h.pr,h.vl,h.vs,hkl,hks,h.sq,h.ql,h.qs,?_,h.wt⟩;rcases h.ld with q|q|q|q
  ·omega
  ·omega
  ·omega
  ·exact .inr (.inr (.inl ⟨rfl,⟨q.2.1.b1,q.2.1.b2,q.2.1.mod,q.2.1.pr,q.2.1.bl,q.2.1.bs⟩,q.2.2.1,rfl,rfl⟩))
 ·rw [show (n.d8==3)=false by simpa using p3];refine ⟨h.id,h.pr,h.vl,h.vs,hkl,hks,h.sq,h.ql,h.qs,?_,h.wt⟩;rcases h.ld with q|q|q|q
  ·exact .inl q
  ·exact .inr (.inl ⟨q.1,⟨q.2.1.b1,q.2.1.b2,q.2.1.mod,q.2.1.pr,q.2.1.bl,q.2.1.bs⟩,q.2.2⟩)
  ·exact .inr (.inr (.inl ⟨q.1,⟨q.2.1.b1,q.2.1.b2,q.2.1.mod,q.2.1.pr,q.2.1.bl,q.2.1.bs⟩,q.2.2⟩))
  ·exact absurd q.1 p3
theorem e0e{s:u0}{e:m4}(hn:e.i7=false):0<=(apply s e).2/\(apply s e).2<=4:=by
 have hf:0<=(N5 s e).2/\(N5 s e).2<=4:=by
  unfold N5;cases a0z s.g7 e.b7
  ·exact ⟨by simp,by simp⟩
  ·cases e.b7.Code==0<;>exact ⟨by simp,by simp⟩
 unfold apply;rw [hn];simp only [cond_false];cases s.i8.find? fun d=>d.a0.b9==e.a0.b9 with
 | none=>exact hf
 | some d =>
  simp only;cases d.a0.Seq==e.a0.Seq
  ·cases decide (d.a0.Seq>e.a0.Seq)
   ·exact hf
   ·exact ⟨by simp,by simp⟩
  ·exact ⟨by simp,by simp⟩
theorem b36{l:List m4}{q:n7}{k:Nat}(h:l.findIdx? (D2 q)=some k):∃hk:k<l.length,l[k].i7=false/\l[k].a0=q:=by
 rw [f6a] at h;obtain ⟨hk,h1,_⟩:=h;unfold D2 at h1;simp only [f5m,f6c] at h1;exact ⟨hk,h1.1,a9u.1 h1.2⟩
theorem c24{l:List m4}(h:G0 l=true){k:Nat}(hk:k<l.length):K1 l k=(apply (o8 (l.take k)).1 l[k]).2:=by
 obtain ⟨a,b⟩:=X0 h;unfold K1;rw [c1v a b hk];rfl
theorem e8O{l:List m4}(h:∀e∈l,z5 e=true)(q:n7):-1000000<=Q3 l q/\Q3 l q<=1000000:=by
 unfold Q3;cases hf:l.findIdx? (D2 q) with
 | none=>exact ⟨by simp,by simp⟩
 | some k =>
  obtain ⟨hk,h1,h2⟩:=b36 hf;simp only [f5j hk];exact (a21 (a3B (h _ (f5l hk)) h1).2.2.1).2.1
theorem e7I{n:j6}(h:NI n):NI (U5 n).1/\∀t∈(U5 n).2,S0 t=true:=by
 rcases b0W n with q|⟨k,hb,hk,q⟩<;>rw [q]
 ·exact ⟨h,by simp⟩
 ·refine ⟨h.freeN,fun t ht => ?_⟩;obtain ⟨hkl,h1,h2⟩:=b36 hk;have ht:=f5p.1 ht;subst ht;have hw:n.b8.a0=⟨n.Id,n.Seq⟩/\z5 n.b8=true/\n.b8.i7=false:=by
   rcases h.wt with q|q
   ·exact ⟨q.2.2.2.2,q.2.2.1,q.2.2.2.1⟩
   ·rw [hb] at q;cases q.1
  obtain ⟨w1,w2,_⟩:=a3B hw.2.1 hw.2.2;have hc:=e0e (s:=(o8 (n.a5.take k)).1) h1;rw [<-c24 h.list hkl] at hc;have hv:=e8O h.ks n.b8.a0;unfold S0;simp only [f5m,K4,beq_iff_eq];refine ⟨h.id,⟨w1,w2⟩,by rw [hw.1],hc,?_⟩;cases K1 n.a5 k==0
  ·exact ⟨by simp,by simp⟩
  ·exact hv
structure a6s(n:j6)(x:j6×List l8×List n5):Prop where
 ni:NI x.1
 id:x.1.Id=n.Id
 ms:∀m∈x.2.1,MI m
 ts:∀t∈x.2.2,S0 t=true
theorem S6.three{n:j6}{x:j6×List l8}(h:S6 n x):a6s n (x.1,x.2,[]):=⟨h.ni,h.id,h.ms,by simp⟩
theorem a6s.same{n:j6}(h:NI n):a6s n (n,[],[]):=⟨h,rfl,by simp,by simp⟩
theorem d3T{n:j6}(h:NI n){e:m4}(he:z5 e=true)(hl:n.a5.length<40):a6s n (Y2 n e):=by
 have h1:=h.know he hl;obtain ⟨h2,h3⟩:=e7I h1;have h4:=a99 h2;exact ⟨h4.ni,h4.id.trans ((d3d _).trans (b6T _ _)),h4.ms,h3⟩
theorem e2h{a:z0}{b:Int}(h:I3 a b=none)(hb:1<=b/\b<=3000):b<a.g9:=by
 by_cases q:a.g9<=b
 ·rw [b5p hb.1 hb.2 q] at h;cases h
 ·omega
theorem d1V{n:j6}(h:NI n){m:l8}(hm:MI m)(hk:m.a8=1):S6 n (a1v n m):=by
 have hb:1<=m.a7/\m.a7<=3000:=by
  rcases hm.kd with q|q|q|q|q|q|q
  ·exact q.2.1
  all_goals exact absurd q.1 (by omega)
 have hs:=hm.sl;unfold a1v;cases hp:I3 n.Acc m.a7 with
 | none =>
  have:=e2h hp hb;refine ⟨h,rfl,fun x hx => ?_⟩;rw [f5p.1 hx];exact b1j hm (.refuse (by have:=h.pr;omega)) (by simp)
 | some a =>
  have hn:=(h.promise hp).yield m.a7;obtain ⟨rfl,_⟩:=a4m hp;refine ⟨hn,?_,fun x hx => ?_⟩
  ·simp only [N0];cases n.d8 != 0&&decide (m.a7>n.a7)<;>rfl
  ·rw [f5p.1 hx];have hvl:=h.vl;refine b1j hm (.inr (.inl ⟨rfl,hb,rfl,⟨by simp;omega,fun v hv=>(h.vs v (f6j hv)).1⟩,by simp;omega⟩)) hs
theorem a5Z(n:j6)(b:Int):(N0 n b).Id=n.Id:=by
 unfold N0;cases n.d8 != 0&&decide (b>n.a7)<;>rfl
theorem e0z{a:z0}{b:Int}{k:Nat}{e:m4}(h:K5 a b (k:Int) e=none)(hk:k<40)(he:z5 e=true)(hb:1<=b/\b<=3000):b<a.g9:=by
 by_cases q:a.g9<=b
 ·rw [e9R hk he hb.1 hb.2 q] at h;cases h
 ·omega
theorem d5G{n:j6}(h:NI n){m:l8}(hm:MI m)(hk:m.a8=3):S6 n (a1D n m):=by
 have hb:(1<=m.a7/\m.a7<=3000)/\m.g8<40/\z5 m.i4=true:=by
  rcases hm.kd with q|q|q|q|q|q|q
  ·omega
  ·omega
  ·exact ⟨q.2.1,q.2.2.1,q.2.2.2.1⟩
  all_goals exact absurd q.1 (by omega)
 have hs:=hm.sl;obtain ⟨k,hsk⟩:∃k:Nat,m.g8=(k:Int):=⟨m.g8.toNat,by omega⟩
 unfold a1D;cases hp:K5 n.Acc m.a7 m.g8 m.i4 with
 | none =>
  rw [hsk] at hp;have:=e0z hp (by omega) hb.2.2 hb.1;refine ⟨h,rfl,fun x hx => ?_⟩;rw [f5p.1 hx];exact b1j hm (.refuse (by have:=h.pr;omega)) (by simp)
 | some a =>
  refine ⟨(h.cast hp).yield m.a7,a5Z _ _,fun x hx => ?_⟩;rw [f5p.1 hx];exact b1j hm (.one (.inr rfl) hb.1) hs
theorem c2b{n:j6}(h:NI n){m:l8}(hm:MI m)(hk:m.a8=2):S6 n (a1z n m):=by
 have hkd:(m.a6.length<=40/\∀v∈m.a6,VI v)/\m.g8+m.a6.length<=40:=by
  rcases hm.kd with q|q|q|q|q|q|q
  ·omega
  ·exact ⟨q.2.2.2.1,q.2.2.2.2⟩
  all_goals exact absurd q.1 (by omega)
 have hs:=hm.sl;have hf:=hm.fr;unfold a1z;cases hc:n.d8 != 1||m.a7 != n.a7
 ·simp only [f6s,bne_eq_false_iff_eq] at hc;simp only [cond_false];have hl:Own n/\n.c9.length=3/\n.c9[n.Id.toNat]?=some true/\n.d6=zE/\n.a6=[]:=by
   rcases h.ld with q|q|q|q
   ·omega
   ·exact q.2
   all_goals exact absurd q.1 (by omega)
  have hbl:=a8P n.i0 (f5k m.g8.toNat v0++m.a6);have hob:=hl.1.bl;have hlen:(f5k m.g8.toNat v0++m.a6).length<=40:=by simp;omega
  have hbs:∀v∈D5 n.i0 (f5k m.g8.toNat v0++m.a6),VI v:=fun v hv=>(a9C hv).elim (fun q=>hl.1.bs v q) (fun q=>(List.mem_append.1 q).elim (fun q=>by rw [(f5Z.1 q).2];exact .inl rfl) (hkd.1.2 v))
  cases M8 (n.c9.set m.c9.toNat true)
  ·simp only [cond_false];refine ⟨⟨h.id,h.pr,h.vl,h.vs,h.kl,h.ks,h.sq,h.ql,h.qs,.inr (.inl ⟨hc.1,⟨hl.1.b1,hl.1.b2,hl.1.mod,hl.1.pr,by show (D5 _ _).length<=40;omega,hbs⟩,by simp [hl.2.1],?_,hl.2.2.2.1,hl.2.2.2.2⟩),h.wt⟩,rfl,by simp⟩;show (n.c9.set m.c9.toNat true)[n.Id.toNat]?=some true
   by_cases q:m.c9.toNat=n.Id.toNat
   ·rw [q,f6l (by have:=h.id;omega)]
   ·rw [f5D q];exact hl.2.2.1
  ·simp only [cond_true];refine S6.to (n:=n) (n':={n with c9:=[],i0:=D5 n.i0 (f5k m.g8.toNat v0++m.a6),d8:=2}) rfl (a99 ?_);exact ⟨h.id,h.pr,h.vl,h.vs,h.kl,h.ks,h.sq,h.ql,h.qs,.inr (.inr (.inl ⟨rfl,⟨hl.1.b1,hl.1.b2,hl.1.mod,hl.1.pr,by show (D5 _ _).length<=40;omega,hbs⟩,rfl,hl.2.2.2.1,hl.2.2.2.2⟩)),h.wt⟩
 ·exact .same h
theorem d5N{n:j6}(h:NI n){m:l8}(hm:MI m):a6s n (a2y n m):=by
 have hf:=hm.fr;unfold a2y;cases hc:n.d8 != 3||(m.a7 != n.a7||m.g8 != (n.a5.length:Int))
 ·simp only [f6s,bne_eq_false_iff_eq] at hc;simp only [cond_false];have hl:Own n/\n.c9=[]/\z5 n.d6=true/\n.a6.length=3/\n.a6[n.Id.toNat]?=some true/\n.a5.length<40:=by
   rcases h.ld with q|q|q|q
   ·omega
   ·omega
   ·omega
   ·exact q.2
  have hn:NI {n with a6:=n.a6.set m.c9.toNat true}:=by
   refine ⟨h.id,h.pr,h.vl,h.vs,h.kl,h.ks,h.sq,h.ql,h.qs,.inr (.inr (.inr ⟨hc.1,⟨hl.1.b1,hl.1.b2,hl.1.mod,hl.1.pr,hl.1.bl,hl.1.bs⟩,hl.2.1,hl.2.2.1,by simp [hl.2.2.2.1],?_,hl.2.2.2.2.2⟩)),h.wt⟩;show (n.a6.set m.c9.toNat true)[n.Id.toNat]?=some true
   by_cases q:m.c9.toNat=n.Id.toNat
   ·rw [q,f6l (by have:=h.id;omega)]
   ·rw [f5D q];exact hl.2.2.2.2.1
  cases M8 (n.a6.set m.c9.toNat true)
  ·exact ⟨hn,rfl,by simp,by simp⟩
  ·simp only [cond_true];have hr:=d3T hn hl.2.2.1 hl.2.2.2.2.2;refine ⟨hr.ni,hr.id,fun x hx => ?_,hr.ts⟩;rcases List.mem_append.1 hx with q|q
   ·exact a5K h.id (.chosen (by omega) hl.2.2.1) (by simp only;omega) x q
   ·exact hr.ms x q
 ·exact .same h
theorem d5w{n:j6}(h:NI n){m:l8}(hm:MI m)(hk:m.a8=5):a6s n (a2A n m):=by
 have hkd:m.g8<40/\z5 m.i4=true:=by
  rcases hm.kd with q|q|q|q|q|q|q
  ·omega
  ·omega
  ·omega
  ·exact ⟨q.2.2.1,q.2.2.2.1⟩
  all_goals exact absurd q.1 (by omega)
 have hkl:=h.kl;unfold a2A;cases h1:decide (m.g8<(n.a5.length:Int))
 ·cases h2:decide (m.g8>(n.a5.length:Int))
  ·simp only [decide_eq_false_iff_not] at h1 h2;exact d3T h hkd.2 (by omega)
  ·refine ⟨h,rfl,fun x hx => ?_,by simp⟩;rw [f5p.1 hx];exact b1j hm .need (by simp only;omega)
 ·exact .same h
theorem e6X{n:j6}(h:NI n){m:l8}(hm:MI m)(hk:m.a8=7):S6 n (a1w n m):=by
 have hkd:z5 m.i4=true/\m.i4.i7=false:=by
  rcases hm.kd with q|q|q|q|q|q|q
  ·omega
  ·omega
  ·omega
  ·omega
  ·omega
  ·exact ⟨q.2.2.2.1,q.2.2.2.2.1⟩
  ·omega
 unfold a1w;cases hc:n.d8==0||(decide (4<=n.f0.length)||M9 n.a5 m.i4.a0)
 ·simp only [cond_false];simp only [f6s,decide_eq_false_iff_not] at hc;refine S6.to (n:=n) (n':={n with f0:=n.f0++[m.i4]}) rfl (a99 (h.queue (by simp;omega) ?_));intro e he;rcases List.mem_append.1 he with q|q
  ·exact h.qs e q
  ·rw [f5p.1 q];exact hkd
 ·exact .same h
theorem d1O{n:j6}(h:NI n){m:l8}(hm:MI m):∀x∈a4a n m,MI x:=by
 intro x hx;unfold a4a at hx;obtain ⟨l,hl,hx⟩:=f6h.1 hx;obtain ⟨j,hj,rfl⟩:=List.mem_map.1 hl;have hkl:=h.kl;unfold a1o at hx;cases hg:n.a5[m.g8.toNat+j]? with
 | none=>rw [hg] at hx;cases hx
 | some e =>
  rw [hg] at hx;have hlt:=(f5o.1 hg).1;rw [f5p.1 hx];exact b1j hm (.chosen (by omega) (h.ks e (f5w hg))) (by simp only;omega)
theorem b6Z{n:j6}(h:NI n){m:l8}(hm:MI m):a6s n (W5 n m):=by
 unfold W5;by_cases k1:m.a8=1
 ·rw [show (m.a8==1)=true by simpa using k1];exact (d1V h hm k1).three
 rw [show (m.a8==1)=false by simpa using k1];by_cases k2:m.a8=2
 ·rw [show (m.a8==2)=true by simpa using k2];exact (c2b h hm k2).three
 rw [show (m.a8==2)=false by simpa using k2];by_cases k3:m.a8=3
 ·rw [show (m.a8==3)=true by simpa using k3];exact (d5G h hm k3).three
 rw [show (m.a8==3)=false by simpa using k3];by_cases k4:m.a8=4
 ·rw [show (m.a8==4)=true by simpa using k4];exact d5N h hm
 rw [show (m.a8==4)=false by simpa using k4];by_cases k5:m.a8=5
 ·rw [show (m.a8==5)=true by simpa using k5];exact d5w h hm k5
 rw [show (m.a8==5)=false by simpa using k5];by_cases k6:m.a8=6
 ·rw [show (m.a8==6)=true by simpa using k6];simp only [cond_true,cond_false];cases hp:I3 n.Acc m.a7 with
  | none=>exact ⟨h.yield _,a5Z _ _,by simp,by simp⟩
  | some a=>exact ⟨(h.promise hp).yield _,a5Z _ _,by simp,by simp⟩
 rw [show (m.a8==6)=false by simpa using k6];by_cases k7:m.a8=7
 ·rw [show (m.a8==7)=true by simpa using k7];exact (e6X h hm k7).three
 rw [show (m.a8==7)=false by simpa using k7];cases m.a8==8
 ·exact .same h
 ·exact ⟨h,rfl,d1O h hm,by simp⟩
structure e31(n x:j6):Prop where
 id:x.Id=n.Id
 known:x.a5=n.a5
 seq:x.Seq=n.Seq
 busy:x.i9=n.i9
 prog:x.i6=n.i6
 want:x.b8=n.b8
theorem b5R(n:j6):e31 n (M1 n).1:=by
 unfold M1;cases n.d8 != 2||decide (40<=n.a5.length)
 ·simp only [cond_false];obtain ⟨q,hq,_⟩:=b01 n;cases hx:a0D n with
  | mk x o =>
  rw [hx] at hq;have hq:x={n with f0:=q}:=hq;subst hq;cases o with
  | none=>exact ⟨rfl,rfl,rfl,rfl,rfl,rfl⟩
  | some e =>
   simp only [a6M];cases K5 n.Acc n.a7 (n.a5.length:Int) e<;>exact ⟨rfl,rfl,rfl,rfl,rfl,rfl⟩
 ·exact ⟨rfl,rfl,rfl,rfl,rfl,rfl⟩
def a2g(n:j6):List m9:=(o8 n.a5).1.g7
theorem b5c{n:j6}(h:NI n):C4 (a2g n)=true:=by
 obtain ⟨a,b⟩:=X0 h.list;have:=(P3 a b n.a5.length (f5y _)).1.boxes;rwa [f5C] at this
theorem e8j{n:j6}(h:NI n):b98 n=some (o8 n.a5).1:=by
 unfold b98;rw [b0e h.ok,f5i,a1n.2 h];simp only [f5n,cond_false];rw [c9x (okEntries.f h.ok.2.2.1) h.list];rfl
theorem e1U{l:List m9}{p:List n8}(h:(B8 l p).Code≠3):E2 p=true:=by
 unfold B8 at h;cases hp:E2 p
 ·rw [hp,Bool.and_false] at h;exact absurd rfl h
 ·rfl
def P5(n:j6)(prog:List n8):j6:={n with Seq:=n.Seq+1,i9:=true,i6:=prog,b8:=⟨false,⟨n.Id,n.Seq+1⟩,B8 (a2g n) prog⟩}
def M5(n:j6)(prog:List n8):Bool := !(n.i9||(n.Seq==1000||(B8 (a2g n) prog).Code==3))
theorem c0W{n:j6}{prog:List n8}:M5 n prog=true↔n.i9=false/\n.Seq≠1000/\(B8 (a2g n) prog).Code≠3:=by
 unfold M5;simp
theorem b8z{n:j6}(h:NI n){prog:List n8}(hp:s9 prog)(hc:M5 n prog=true):z5 (P5 n prog).b8=true/\E2 prog=true:=by
 obtain ⟨h1,h2,h3⟩:=c0W.1 hc;have hr:=(b76 (b5c h) hp).ok;have hs:=h.sq;have hid:=h.id;refine ⟨?_,e1U h3⟩;unfold z5 P5;simp only [cond_false,f5m,K4,hr,true_and,bne_iff_ne,ne_eq];exact ⟨⟨hid,by omega⟩,h3⟩
theorem NI.asked{n:j6}(h:NI n){prog:List n8}(hp:s9 prog)(hc:M5 n prog=true):NI (P5 n prog):=by
 obtain ⟨h1,h2,h3⟩:=c0W.1 hc;obtain ⟨h4,h5⟩:=b8z h hp hc;have hs:=h.sq;exact ⟨h.id,h.pr,h.vl,h.vs,h.kl,h.ks,by show 0<=n.Seq+1/\n.Seq+1<=1000;omega,h.ql,h.qs,h.ld,.inl ⟨rfl,h5,h4,rfl,rfl⟩⟩
theorem a2o(n:j6)(prog:List n8):N4 n prog=bif M5 n prog then (bif n.d8==2 then M1 (P5 n prog) else (P5 n prog,bif n.d8==0 then I4 n.Id ⟨7,0,0,0,0,(P5 n prog).b8,[]⟩ else [])) else (n,[]):=by
 unfold N4 M5 P5 a2g;cases n.i9||(n.Seq==1000||(B8 (o8 n.a5).1.g7 prog).Code==3)<;>rfl
theorem d9C{n:j6}(h:NI n){prog:List n8}(hp:A3 32 okT prog):b44 n prog=some ((N4 n prog).1,(N4 n prog).2,[]):=by
 have hf:s9 prog:=hp.fits (by decide);have hs:=h.sq;unfold b44;rw [b0e h.ok,f5i,a1n.2 h,b1y h.ok,e8j h,a2o];simp only [f5n,cond_false,f5i];rw [show (o8 n.a5).1.g7=a2g n from rfl,c0P (a1P (b5c h)) hf,f5i];cases hb:n.i9
 ·cases hq:n.Seq==1000
  ·cases hc:(B8 (a2g n) prog).Code==3
   ·have hca:M5 n prog=true:=by unfold M5;rw [hb,hq,hc];rfl
    have hn:=h.asked hf hca;rw [hca];simp only [cond_true,cond_false];rw [u7 (by have:=hp.1;simp;omega),C2 (by omega) (by omega)];cases h2:n.d8==2
    ·cases h0:n.d8==0
     ·rfl
     ·simp only [cond_false,cond_true];rw [a5T h.id (show a0j ⟨7,0,0,0,0,⟨false,⟨n.Id,n.Seq+1⟩,B8 (a2g n) prog⟩,[]⟩ from a7R (A4 (by omega)) a0h a0h (a2K (b8z h hf hca).1) U6)];rfl
    ·simp only [cond_true];rw [show (⟨n.Id,n.Acc,n.a5,n.Seq+1,n.d8,n.a7,n.c9,n.i0,n.d6,n.a6,true,[]++prog,⟨false,⟨n.Id,n.Seq+1⟩,B8 (a2g n) prog⟩,n.f0⟩:j6)=P5 n prog from rfl,b2I hn.ok hn.id,f5i]
   ·have hca:M5 n prog=false:=by unfold M5;rw [hb,hq,hc];rfl
    rw [hca];rfl
  ·have hca:M5 n prog=false:=by unfold M5;rw [hb,hq];rfl
   rw [hca];rfl
 ·have hca:M5 n prog=false:=by unfold M5;rw [hb];rfl
  rw [hca];rfl
theorem b2o{n:j6}(h:NI n){prog:List n8}(hp:s9 prog):S6 n (N4 n prog):=by
 rw [a2o];cases hc:M5 n prog
 ·exact .same h
 ·have hn:=h.asked hp hc;simp only [cond_true];cases n.d8==2
  ·refine ⟨hn,rfl,fun x hx => ?_⟩;simp only [cond_false] at hx;cases h0:n.d8==0
   ·rw [h0] at hx;cases hx
   ·rw [h0] at hx;exact a5K h.id (.ask (b8z h hp hc).1 rfl) (by simp) x hx
  ·exact S6.to (n:=n) (n':=P5 n prog) rfl (a99 hn)
theorem b61{b who:Int}(hb:0<=b/\b<=3000)(hw:0<=who/\who<=2):M0 b who=-1\/(b<M0 b who/\M0 b who<=b+3/\M0 b who<=3000/\f5K (M0 b who) 3=who):=by
 unfold M0;cases h1:decide (b+1<=3000)&&(f5K (b+1) 3==who)
 ·cases h2:decide (b+2<=3000)&&(f5K (b+2) 3==who)
  ·cases h3:decide (b+3<=3000)&&(f5K (b+3) 3==who)
   ·exact .inl rfl
   ·simp only [f5m,decide_eq_true_eq,beq_iff_eq] at h3;exact .inr ⟨by simp only [cond_true,cond_false];omega,by simp only [cond_true,cond_false];omega,h3.1,h3.2⟩
  ·simp only [f5m,decide_eq_true_eq,beq_iff_eq] at h2;exact .inr ⟨by simp only [cond_true,cond_false];omega,by simp only [cond_true,cond_false];omega,h2.1,h2.2⟩
 ·simp only [f5m,decide_eq_true_eq,beq_iff_eq] at h1;exact .inr ⟨by simp only [cond_true,cond_false];omega,by simp only [cond_true,cond_false];omega,h1.1,h1.2⟩
theorem e4N{n:j6}(h:NI n):b7I n=some (Y3 n):=by
 unfold b7I Y3;rw [b0e h.ok,f5i,a1n.2 h,b1y h.ok];simp only [f5n,cond_false,f5i];rw [e3R h.pr h.id,f5i];cases hd:decide (M0 n.Acc.g9 n.Id<0)
 ·simp only [decide_eq_false_iff_not] at hd;rcases b61 h.pr h.id with q|⟨q1,q2,q3,q4⟩
  ·omega
  ·have hpr:=h.pr;have hkl:=h.kl;obtain ⟨y,hy⟩:=c1f h.id;simp only [cond_false,b4n,f5i,b9o,b5p (a:=n.Acc) (show 1<=M0 n.Acc.g9 n.Id by omega) q3 (by omega),hy,f0T h.ok.2.1.2];rw [u7 (by omega),u7 trivial,a5T h.id (a7R (A4 (by omega)) (A4 (by omega)) (A4 (by omega)) a02 U6)];rfl
 ·rfl
theorem b4e{n:j6}(h:NI n):S6 n (Y3 n):=by
 unfold Y3;cases hd:decide (M0 n.Acc.g9 n.Id<0)
 ·simp only [decide_eq_false_iff_not] at hd;have hpr:=h.pr;have hkl:=h.kl;rcases b61 h.pr h.id with q|⟨q1,q2,q3,q4⟩
  ·omega
  ·obtain ⟨m1,m2⟩:=c43 h.id;refine ⟨⟨h.id,⟨by simp only [cond_false];omega,q3⟩,h.vl,fun v hv=>⟨(h.vs v hv).1,f6d (h.vs v hv).2 (Int.le_of_lt q1)⟩,h.kl,h.ks,h.sq,h.ql,h.qs,.inr (.inl ⟨rfl,⟨by simp only [cond_false];omega,q3,q4,f5H _,h.vl,fun v hv=>(h.vs v hv).1⟩,m1,m2,rfl,rfl⟩),h.wt⟩,rfl,?_⟩;exact a5K h.id (.one (.inl rfl) ⟨by omega,q3⟩) (by simp only;omega)
 ·exact .same h
theorem d0h{k b s:Int}(hk:0<=k/\k<=8)(hb:0<=b/\b<=3000)(hs:0<=s/\s<=40):a0j ⟨k,0,0,b,s,zE,[]⟩:=a7R (A4 (by omega)) (A4 (by omega)) (A4 (by omega)) a02 U6
theorem e7Q{n:j6}(h:NI n):b50 n=some ((V4 n).1,(V4 n).2,[]):=by
 have hkl:=h.kl;have hb:=h.ld.bal;have l1:=a0F n.Id ⟨8,0,0,0,(n.a5.length:Int),zE,[]⟩;unfold b50 V4;rw [b0e h.ok,f5i,a1n.2 h,b1y h.ok];simp only [f5n,cond_false,f5i];rw [a5T h.id (d0h (by omega) (by omega) (by omega)),f5i];cases h1:n.d8==1
 ·cases h2:n.d8==2
  ·cases h3:n.d8==3
   ·cases hbz:n.i9
    ·rfl
    ·simp only [cond_true,cond_false];have l2:=a0F n.Id ⟨7,0,0,0,0,n.b8,[]⟩;have hw:F3 n.b8:=h.ok.2.2.2.2.2.2.2.2.2.2.2.1;rw [a5T h.id (a7R (A4 (by omega)) a0h a0h hw U6),f5i,u7 (by omega)];rfl
   ·simp only [cond_true,cond_false];have l2:=a0F n.Id ⟨3,0,0,n.a7,(n.a5.length:Int),n.d6,[]⟩;rw [a5T h.id (a7R (A4 (by omega)) (A4 (by omega)) (A4 (by omega)) h.ld.from3.2.2 U6),f5i,u7 (by omega)];rfl
  ·simp only [cond_true,cond_false];have l2:=a9i n;rw [b2I h.ok h.id,f5i,u7 (by omega)];rfl
 ·simp only [cond_true,cond_false];have l2:=a0F n.Id ⟨1,0,0,n.a7,(n.a5.length:Int),zE,[]⟩;rw [a5T h.id (d0h (by omega) (by omega) (by omega)),f5i,u7 (by omega)];rfl
theorem b26{n:j6}(h:NI n):S6 n (V4 n):=by
 have hkl:=h.kl;have hb:=h.ld.bal;have a1:∀x∈I4 n.Id ⟨8,0,0,0,(n.a5.length:Int),zE,[]⟩,MI x:=a5K h.id .need (by simp only;omega)
 have M8:∀{l:List l8},(∀x∈l,MI x)->∀x∈I4 n.Id ⟨8,0,0,0,(n.a5.length:Int),zE,[]⟩++l,MI x:=by
  intro l hl x hx;rcases List.mem_append.1 hx with q|q
  ·exact a1 x q
  ·exact hl x q
 unfold V4;by_cases h1:n.d8=1
 ·rw [show (n.d8==1)=true by simpa using h1];refine ⟨h,rfl,M8 (a5K h.id (.one (.inl rfl) ?_) (by simp only;omega))⟩;rcases h.ld with q|q|q|q
  ·omega
  ·exact ⟨q.2.1.b1,q.2.1.b2⟩
  all_goals exact absurd q.1 (by omega)
 rw [show (n.d8==1)=false by simpa using h1];by_cases h2:n.d8=2
 ·rw [show (n.d8==2)=true by simpa using h2];have:=a99 h;exact ⟨this.ni,this.id,M8 this.ms⟩
 rw [show (n.d8==2)=false by simpa using h2];by_cases h3:n.d8=3
 ·rw [show (n.d8==3)=true by simpa using h3];rcases h.ld with q|q|q|q
  ·omega
  ·omega
  ·omega
  ·exact ⟨h,rfl,M8 (a5K h.id (.accept ⟨q.2.1.b1,q.2.1.b2⟩ (by omega) q.2.2.2.1) (by simp only;omega))⟩
 rw [show (n.d8==3)=false by simpa using h3];cases hbz:n.i9
 ·exact ⟨h,rfl,a1⟩
 ·rcases h.wt with q|q
  ·exact ⟨h,rfl,M8 (a5K h.id (.ask q.2.2.1 q.2.2.2.1) (by simp))⟩
  ·rw [hbz] at q;cases q.1
theorem f1X{n:j6}(h:NI n):b6c n=some (a1p n):=by
 unfold b6c;rw [b0e h.ok,f5i,a1n.2 h,b1y h.ok];rfl
theorem NI.open{id:Int}(h:0<=id/\id<=2):NI (C5 id) :=
 ⟨h,⟨by simp [C5],by simp [C5]⟩,by simp [C5],by simp [C5],by simp [C5],by simp [C5],⟨by simp [C5],by simp [C5]⟩,by simp [C5],by simp [C5],.inl ⟨rfl,rfl,rfl,rfl,rfl,rfl⟩,.inr ⟨rfl,rfl,rfl⟩⟩
theorem NI.fall{n:j6}(h:NI n):NI (a1p n) :=
 ⟨h.id,h.pr,h.vl,h.vs,h.kl,h.ks,h.sq,by simp [a1p,C5],by simp [a1p,C5],.inl ⟨rfl,rfl,rfl,rfl,rfl,rfl⟩,.inr ⟨rfl,rfl,rfl⟩⟩
theorem c6x{l:List l8}(hl:s9 l)(ho:∀m∈l,a0j m):∀(d k:Nat) (net:List l8),l.length-k=d->p8 (fun s:(List l8)×Int=>a3o l s.1 s.2) (net,(k:Int))=some (.brk (net++(l.drop k).take (40-net.length)))
 | 0,k,net,hd=>by
  rw [f5F (by omega)];refine (C6 (b:=net) ?_).trans (by simp);show a3o l net (k:Int)=_
  unfold a3o;rw [show decide ((k:Int)<(l.length:Int))=false by simp;omega];rfl
 | d+1,k,net,hd=>by
  have hlt:k<l.length:=by omega
  by_cases hn:net.length<40
  ·have hb:a3o l net (k:Int)=some (.nxt (net++[l[k]],((k+1:Nat):Int))):=by
    unfold a3o;rw [x8 _ k hlt,show decide ((net.length:Int)<40)=true by simp;omega,cond_true,cond_true,t9 hlt,f5i,b6w (ho _ (f5l hlt)),f5i,u7 (by omega),E9 hl hlt]
   rw [E3 (body:=fun s:(List l8)×Int=>a3o l s.1 s.2) (s:=(net,(k:Int))) hb,c6x hl ho d (k+1) _ (by omega),f5z hlt];rw [show 40-net.length=(40-(net++[l[k]]).length)+1 by simp;omega,f7b,f5B];rfl
  ·refine (C6 (b:=net) ?_).trans (by rw [show 40-net.length=0 by omega];simp);show a3o l net (k:Int)=_
   unfold a3o;rw [x8 _ k hlt,show decide ((net.length:Int)<40)=false by simp;omega];rfl
theorem a6B(w:m5){l:List l8}(hl:s9 l)(ho:∀m∈l,a0j m):a2Q w l=some (a0M w l):=by
 unfold a2Q;rw [show p8 (fun s:(List l8)×Int=>a3o l s.1 s.2) (w.c8,0)=_ from c6x hl ho l.length 0 w.c8 rfl];rfl
theorem d3I{l:List n5}(hl:s9 l):∀(d k:Nat) (o:List n5),l.length-k=d->p8 (fun s:(List n5)×Int=>a27 l s.1 s.2) (o,(k:Int))=some (.brk (o++(l.drop k).take (60-o.length)))
 | 0,k,o,hd=>by
  rw [f5F (by omega)];refine (C6 (b:=o) ?_).trans (by simp);show a27 l o (k:Int)=_
  unfold a27;rw [show decide ((k:Int)<(l.length:Int))=false by simp;omega];rfl
 | d+1,k,o,hd=>by
  have hlt:k<l.length:=by omega
  by_cases hn:o.length<60
  ·have hb:a27 l o (k:Int)=some (.nxt (o++[l[k]],((k+1:Nat):Int))):=by
    unfold a27;rw [x8 _ k hlt,show decide ((o.length:Int)<60)=true by simp;omega,cond_true,cond_true,t9 hlt,f5i,u7 (by omega),E9 hl hlt]
   rw [E3 (body:=fun s:(List n5)×Int=>a27 l s.1 s.2) (s:=(o,(k:Int))) hb,d3I hl d (k+1) _ (by omega),f5z hlt];rw [show 60-o.length=(60-(o++[l[k]]).length)+1 by simp;omega,f7b,f5B];rfl
  ·refine (C6 (b:=o) ?_).trans (by rw [show 60-o.length=0 by omega];simp);show a27 l o (k:Int)=_
   unfold a27;rw [x8 _ k hlt,show decide ((o.length:Int)<60)=false by simp;omega];rfl
theorem a9e(w:m5){l:List n5}(hl:s9 l):a3W w l=some (a8g w l):=by
 unfold a3W;rw [show p8 (fun s:(List n5)×Int=>a27 l s.1 s.2) (w.Told,0)=_ from d3I hl l.length 0 w.Told rfl];rfl
theorem a2Z(w:m5):a8g w []=w:=by
 unfold a8g;simp
theorem c0T(w:m5):a0M w []=w:=by
 unfold a0M;simp
theorem d8L{w:m5}{k:Nat}(hk:k<w.c8.length)(hl:w.c8.length<=40):b4t w (k:Int)=some (a28 w (k:Int)):=by
 unfold b4t a28;rw [u7 (by omega),u7 (by simp;omega),C2 (by omega) (by omega),u7 (by omega),u7 (by simp;omega)];simp only [f6b,f6M,f6q,Nat.sub_zero,f5I,f6m,show ((k:Int)+1).toNat=k+1 by omega];rw [f5V (l:=w.c8.drop (k+1)) (by simp)]
theorem a7t{w:m5}(h:WI w){i:Nat}(hi:i<3):∃n,w.a9[i]?=some n/\I9 w (i:Int)=n/\n.Id=(i:Int)/\NI n/\i<w.a9.length:=by
 have hl:=h.nl;have hg:=f5j (l:=w.a9) (i:=i) (by omega);obtain ⟨h1,h2⟩:=h.ns i _ hg;refine ⟨_,hg,?_,h1,h2,by omega⟩;unfold I9;rw [f5I,f5x,hg];rfl
theorem WI.put{w:m5}(h:WI w){i:Nat}{n:j6}(hid:n.Id=(i:Int))(hn:NI n):WI (O6 w (i:Int) n):=by
 refine ⟨by simp [O6,h.nl],?_,h.ml,h.ms,h.al,h.aq,h.tl,h.ts⟩;intro j m hm;simp only [O6,f5I] at hm;by_cases q:i=j
 ·subst q;have hlt:=(f5o.1 hm).1;rw [f6B] at hlt;rw [f6l hlt] at hm;injection hm with hm;subst hm;exact ⟨hid,hn⟩
 ·rw [f5D q] at hm;exact h.ns j m hm
theorem WI.send{w:m5}(h:WI w){l:List l8}(hl:∀m∈l,MI m):WI (a0M w l):=by
 have:=h.ml;refine ⟨h.nl,h.ns,by simp only [a0M,f5u,f5G];omega,?_,h.al,h.aq,h.tl,h.ts⟩;intro m hm;rcases List.mem_append.1 hm with q|q
 ·exact h.ms m q
 ·exact hl m (f6k q)
theorem WI.tell{w:m5}(h:WI w){l:List n5}(hl:∀t∈l,S0 t=true):WI (a8g w l):=by
 have:=h.tl;refine ⟨h.nl,h.ns,h.ml,h.ms,h.al,h.aq,by simp only [a8g,f5u,f5G];omega,?_⟩;intro m hm;rcases List.mem_append.1 hm with q|q
 ·exact h.ts m q
 ·exact hl m (f6k q)
theorem WI.off{w:m5}(h:WI w)(i:Int):WI (a28 w i):=by
 have:=h.ml;refine ⟨h.nl,h.ns,by simp only [a28,f5u,f5G,List.length_drop];omega,?_,h.al,h.aq,h.tl,h.ts⟩;intro m hm;rcases List.mem_append.1 hm with q|q
 ·exact h.ms m (f6k q)
 ·exact h.ms m (f6j q)
theorem b1o{l:List l8}(h:l.length<=100):s9 l:=by unfold s9;omega
theorem c5B(n:j6)(p:List n8):(N4 n p).2.length<=3:=by
 rw [a2o];cases M5 n p
 ·simp
 ·cases n.d8==2
  ·cases n.d8==0
   ·simp
   ·exact a0F _ _
  ·exact a9i _
theorem MI.okl{l:List l8}(h:∀m∈l,MI m):∀m∈l,a0j m:=fun m hm=>(h m hm).ok
theorem d6o(n:j6)(p:List n8):decide ((N4 n p).1.Seq>n.Seq)=M5 n p:=by
 rw [a2o];cases M5 n p
 ·simp
 ·simp only [cond_true];cases n.d8==2
  ·simp [P5];omega
  ·have:=(b5R (P5 n p)).seq;simp only [cond_true,this];simp [P5];omega
theorem c0E{n:j6}{p:List n8}(h:M5 n p=true):(N4 n p).1.b8=(P5 n p).b8:=by
 rw [a2o,h];simp only [cond_true];cases n.d8==2
 ·rfl
 ·exact (b5R (P5 n p)).want
def e3I(w:m5)(a:x6):m5:={w with d7:=w.d7++[a]}
theorem WI.addAsked{w:m5}(h:WI w){a:x6}(hl:w.d7.length<60)(ha:a0m a=true):WI (e3I w a):=by
 refine ⟨h.nl,h.ns,h.ml,h.ms,by simp only [e3I,f5u,f6o];omega,?_,h.tl,h.ts⟩;intro x hx;rcases List.mem_append.1 hx with q|q
 ·exact h.aq x q
 ·rw [f5p.1 q];exact ha
theorem d9M{w:m5}(h:WI w){i:Nat}(hi:i<3){p:List n8}(hp:A3 32 okT p):b6a w (i:Int) p=some (a6f w (i:Int) p)/\WI (a6f w (i:Int) p):=by
 obtain ⟨n,hg,hn,hid,hni,hlt⟩:=a7t h hi;have hf:s9 p:=hp.fits (by decide);have hr:=b2o hni hf;have hln:=c5B n p;have hms:=MI.okl hr.ms;have hal:=h.al;unfold b6a a6f;rw [hn,show decide ((w.d7.length:Int)>=60)=decide (60<=w.d7.length) by simp;omega,a8S,hg,f5i,d9C hni hp,f5i];cases hd:decide (60<=w.d7.length)
 ·simp only [cond_false];simp only [decide_eq_false_iff_not] at hd;rw [d6o];cases hc:M5 n p
  ·simp only [cond_false];rw [a6B _ (b1o (by omega)) hms,f5i,a9e _ (by simp [s9]),a2Z];exact ⟨rfl,(h.put (hr.id.trans hid) hr.ni).send hr.ms⟩
  ·simp only [cond_true];rw [u7 (by have:=hp.1;simp;omega),u7 (by omega),a6B _ (b1o (by omega)) hms,f5i,a9e _ (by simp [s9]),a2Z];refine ⟨rfl,WI.send (w:=O6 (e3I w ⟨(N4 n p).1.b8.a0,p⟩) (i:Int) (N4 n p).1) (WI.put (w:=e3I w ⟨(N4 n p).1.b8.a0,p⟩) (h.addAsked (by omega) ?_) (hr.id.trans hid) hr.ni) hr.ms⟩;rw [c0E hc];obtain ⟨w1,w2⟩:=b8z hni hf hc;obtain ⟨c1,c2,c3⟩:=c0W.1 hc;unfold a0m;have:=hni.id;have:=hni.sq;simp only [f5m,K4,w2,and_true];show (0<=n.Id/\n.Id<=2)/\1<=n.Seq+1/\n.Seq+1<=1000
   omega
 ·exact ⟨rfl,h⟩
theorem b7r{n:j6}(h:NI n)(m:l8):(W5 n m).2.1.length<=60/\(W5 n m).2.2.length<=1:=by
 have hkl:=h.kl;have al:∀n:j6,(U5 n).2.length<=1:=fun n=>by
  rcases b0W n with q|⟨k,_,_,q⟩<;>rw [q]<;>simp
 have ll:∀(n:j6) (e:m4),(Y2 n e).2.1.length<=3/\(Y2 n e).2.2.length<=1:=fun n e=>⟨a9i _,al _⟩
 have nl:(a4a n m).length<=40:=by
  unfold a4a;have:∀d k:Nat,((f5q d).map fun j=>a1o n m (k+j)).flatten.length<=d:=by
   intro d k;rw [List.length_flatten,f7h];have hs:∀(l:List Nat),((l.map (List.length ∘ fun j=>a1o n m (k+j))).sum)<=l.length:=by
    intro l;induction l with
    | nil=>simp
    | cons x l ih =>
     simp only [f5Q,List.sum_cons,f6n,Function.comp];have:(a1o n m (k+x)).length<=1:=by
      unfold a1o;cases n.a5[k+x]?<;>simp
     omega
   have:=hs (f5q d);rwa [List.length_range] at this
  have:=this (n.a5.length-m.g8.toNat) m.g8.toNat;omega
 unfold W5;cases m.a8==1
 ·cases m.a8==2
  ·cases m.a8==3
   ·cases m.a8==4
    ·cases m.a8==5
     ·cases m.a8==6
      ·cases m.a8==7
       ·cases m.a8==8
        ·exact ⟨by simp,by simp⟩
        ·exact ⟨by simp only [cond_true,cond_false];omega,by simp⟩
       ·refine ⟨?_,by simp⟩;simp only [cond_true,cond_false,a1w];cases n.d8==0||(decide (4<=n.f0.length)||M9 n.a5 m.i4.a0)
        ·exact Nat.le_trans (a9i _) (by omega)
        ·simp
      ·exact ⟨by simp,by simp⟩
     ·simp only [cond_true,cond_false,a2A];cases decide (m.g8<(n.a5.length:Int))
      ·cases decide (m.g8>(n.a5.length:Int))
       ·have:=ll n m.i4;exact ⟨by simp only [cond_false];omega,by simp only [cond_false];omega⟩
       ·exact ⟨by simp,by simp⟩
      ·exact ⟨by simp,by simp⟩
    ·simp only [cond_true,cond_false,a2y];cases n.d8 != 3||(m.a7 != n.a7||m.g8 != (n.a5.length:Int))
     ·cases M8 (n.a6.set m.c9.toNat true)
      ·exact ⟨by simp,by simp⟩
      ·have h1:=ll {n with a6:=n.a6.set m.c9.toNat true} n.d6;have h2:=a0F n.Id ⟨5,0,0,0,(n.a5.length:Int),n.d6,[]⟩;exact ⟨by simp only [cond_true,cond_false,f5u];omega,by simp only [cond_true,cond_false];omega⟩
     ·exact ⟨by simp,by simp⟩
   ·refine ⟨?_,by simp⟩;simp only [cond_true,cond_false,a1D];cases K5 n.Acc m.a7 m.g8 m.i4<;>simp
  ·refine ⟨?_,by simp⟩;simp only [cond_true,cond_false,a1z];cases n.d8 != 1||m.a7 != n.a7
   ·cases M8 (n.c9.set m.c9.toNat true)
    ·simp
    ·exact Nat.le_trans (a9i _) (by omega)
   ·simp
 ·refine ⟨?_,by simp⟩;simp only [cond_true,a1v];cases I3 n.Acc m.a7<;>simp
theorem e88{w:m5}(h:WI w)(e:s5):a97 w e=some (a2E w e)/\WI (a2E w e):=by
 have hml:=h.ml;unfold a97 a2E;by_cases h0:e.A<0
 ·rw [show decide (e.A<0)=true by simpa using h0,show decide (0<=e.A)=false by simp;omega];exact ⟨rfl,h⟩
 ·obtain ⟨k,hk⟩:∃k:Nat,e.A=(k:Int):=⟨e.A.toNat,by omega⟩
  rw [hk,show decide ((k:Int)<0)=false by simp,show decide (0<=(k:Int))=true by simp,f5I];simp only [cond_true,cond_false];by_cases hl:k<w.c8.length
  ·rw [show decide ((k:Int)>=(w.c8.length:Int))=false by simp;omega,t9 hl,f5j hl];have hm:=h.ms _ (f5l hl);generalize w.c8[k]=m at hm;simp only [cond_false,f5i,b6w hm.ok];cases e.a8==4
   ·simp only [cond_false];rw [d8L hl hml];cases e.a8==3
    ·simp only [cond_false,f5i];have ho:=h.off (k:Int);have ht:=hm.to;obtain ⟨t,htt⟩:∃t:Nat,m.To=(t:Int):=⟨m.To.toNat,by omega⟩
     obtain ⟨n,hg,hn,hid,hni,hlt⟩:=a7t ho (i:=t) (by omega);have hn':I9 w (t:Int)=n:=hn;have hr:=b6Z hni hm;obtain ⟨l1,l2⟩:=b7r hni m;rw [htt,a8S,hg,f5i,e5i hni hm,f5i,hn'];rw [a6B _ (b1o (by omega)) (MI.okl hr.ms),f5i,a9e _ (by unfold s9;omega)];exact ⟨rfl,((ho.put (hr.id.trans hid) hr.ni).send hr.ms).tell hr.ts⟩
    ·exact ⟨rfl,h.off _⟩
   ·simp only [cond_true];have hs:∀x∈[m],MI x:=fun x hx=>by rw [f5p.1 hx];exact hm
    rw [a6B _ (b1o (by simp)) (MI.okl hs)];exact ⟨rfl,h.send hs⟩
  ·rw [show decide ((k:Int)>=(w.c8.length:Int))=true by simp;omega,f5O (by omega)];exact ⟨rfl,h⟩
def L1(e:s5):Prop:=A3 32 okT e.i6
theorem c4L(n:j6):(V4 n).2.length<=6:=by
 have l0:=a0F n.Id ⟨8,0,0,0,(n.a5.length:Int),zE,[]⟩;unfold V4;cases n.d8==1
 ·cases n.d8==2
  ·cases n.d8==3
   ·cases n.i9
    ·simp only [cond_false];omega
    ·have:=a0F n.Id ⟨7,0,0,0,0,n.b8,[]⟩;simp only [cond_true,cond_false,f5u];omega
   ·have:=a0F n.Id ⟨3,0,0,n.a7,(n.a5.length:Int),n.d6,[]⟩;simp only [cond_true,cond_false,f5u];omega
  ·have:=a9i n;simp only [cond_true,cond_false,f5u];omega
 ·have:=a0F n.Id ⟨1,0,0,n.a7,(n.a5.length:Int),zE,[]⟩;simp only [cond_true,f5u];omega
theorem b7f(n:j6):(Y3 n).2.length<=3:=by
 unfold Y3;cases decide (M0 n.Acc.g9 n.Id<0)
 ·exact a0F _ _
 ·simp
theorem c5d{w:m5}{i:Nat}{n:j6}(h:w.a9[i]?=some n):O6 w (i:Int) n=w:=by
 unfold O6;rw [f5I];obtain ⟨hi,rfl⟩:=f5o.1 h;rw [f7j]
theorem a6v{w:m5}(h:WI w){e:s5}(he:L1 e):b0d w e=some (D7 w e)/\WI (D7 w e):=by
 obtain ⟨n1,n2⟩:=e88 h e;unfold b0d D7;rw [n1];cases e.a8==2
 ·cases e.a8==3
  ·cases e.a8==4
   ·simp only [cond_false,Bool.or_self];by_cases h0:e.A<0
    ·rw [show decide (e.A<0)=true by simpa using h0,show p9 e.A 0 2=false by unfold p9;simp;omega];exact ⟨rfl,h⟩
    ·by_cases h3:e.A>=3
     ·rw [show decide (e.A<0)=false by simpa using h0,show decide (e.A>=3)=true by simpa using h3,show p9 e.A 0 2=false by unfold p9;simp;omega];exact ⟨rfl,h⟩
     ·obtain ⟨i,hi⟩:∃i:Nat,e.A=(i:Int):=⟨e.A.toNat,by omega⟩
      rw [show decide (e.A<0)=false by simpa using h0,show decide (e.A>=3)=false by simpa using h3,show p9 e.A 0 2=true by unfold p9;simp;omega,hi];simp only [cond_false,f5n];obtain ⟨n,hg,hn,hid,hni,hlt⟩:=a7t h (i:=i) (by omega);rw [a8S,hg,f5i,hn];cases e.a8==1
      ·simp only [cond_false];cases e.a8==5
       ·simp only [cond_false];cases e.a8==6
        ·simp only [cond_false];cases e.a8==7
         ·simp only [cond_false];rw [a6B _ (by simp [s9]) (by simp),f5i,a9e _ (by simp [s9]),a2Z,c0T];exact ⟨congrArg some (c5d hg),h⟩
         ·simp only [cond_true];rw [f1X hni,f5i,a6B _ (by simp [s9]) (by simp),f5i,a9e _ (by simp [s9]),a2Z,c0T];exact ⟨rfl,h.put hid hni.fall⟩
        ·simp only [cond_true];have hr:=b26 hni;have hl:=c4L n;rw [e7Q hni,f5i,a6B _ (b1o (by omega)) (MI.okl hr.ms),f5i,a9e _ (by simp [s9]),a2Z];exact ⟨rfl,(h.put (hr.id.trans hid) hr.ni).send hr.ms⟩
       ·simp only [cond_true];have hr:=b4e hni;have hl:=b7f n;rw [e4N hni,f5i,a6B _ (b1o (by omega)) (MI.okl hr.ms),f5i,a9e _ (by simp [s9]),a2Z];exact ⟨rfl,(h.put (hr.id.trans hid) hr.ni).send hr.ms⟩
      ·simp only [cond_true];obtain ⟨a1,a2⟩:=d9M h (i:=i) (by omega) he;unfold c2r;rw [hi,show (⟨w.a9.set (i:Int).toNat n,w.c8,w.d7,w.Told⟩:m5)=w from c5d hg,a1];exact ⟨rfl,a2⟩
   ·exact ⟨rfl,n2⟩
  ·exact ⟨rfl,n2⟩
 ·exact ⟨rfl,n2⟩
theorem WI.open:WI P8:=by
 refine ⟨rfl,?_,by simp [P8],by simp [P8],by simp [P8],by simp [P8],by simp [P8],by simp [P8]⟩;intro i n hn;match i,hn with
 | 0,hn=>injection hn with hn;subst hn;exact ⟨rfl,.open (by omega)⟩
 | 1,hn=>injection hn with hn;subst hn;exact ⟨rfl,.open (by omega)⟩
 | 2,hn=>injection hn with hn;subst hn;exact ⟨rfl,.open (by omega)⟩
 | i+3,hn=>simp [P8] at hn
theorem d4b:b14=some P8:=by
 have e:∀(ns:List j6) (i:Nat),i<3->ns.length<=3->a4r ns (i:Int)=some (.nxt (ns++[C5 (i:Int)],((i+1:Nat):Int))):=by
  intro ns i hi hn;unfold a4r c5l;rw [show decide ((i:Int)<3)=true by simp;omega,show decide ((i:Int)<0)=false by simp,show decide ((i:Int)>=3)=false by simp;omega];simp only [cond_true,cond_false,f5i];rw [u7 (by omega),C2 (by omega) (by omega)];rfl
 have h0:=E3 (body:=fun s:(List j6)×Int=>a4r s.1 s.2) (s:=([],((0:Nat):Int))) (e [] 0 (by omega) (by simp));have h1:=E3 (body:=fun s:(List j6)×Int=>a4r s.1 s.2) (s:=([C5 0],((1:Nat):Int))) (e [C5 0] 1 (by omega) (by simp));have h2:=E3 (body:=fun s:(List j6)×Int=>a4r s.1 s.2) (s:=([C5 0,C5 1],((2:Nat):Int))) (e [C5 0,C5 1] 2 (by omega) (by simp));have h3:=C6 (body:=fun s:(List j6)×Int=>a4r s.1 s.2) (s:=([C5 0,C5 1,C5 2],((3:Nat):Int))) (show a4r [C5 0,C5 1,C5 2] 3=_ from rfl);unfold b14;rw [show p8 (fun s:(List j6)×Int=>a4r s.1 s.2) ([],0)=_ from h0.trans (h1.trans (h2.trans h3))];rfl
theorem c7B{w:m5}(h:WI w):∀{l:List s5},(∀e∈l,L1 e)->WI (a1f w l)
 | [],_=>h
 | e::l,he=>c7B (w:=D7 w e) (a6v h (he e (by simp))).2 (l:=l) fun x hx=>he x (by simp [hx])
theorem d5h{w:m5}(h:R7 w):b2d w=some w:=by
 obtain ⟨h1,h2,h3,h4⟩:=h;have b1:=h1.1;have b2:=h2.1;have b3:=h3.1;unfold b2d;rw [u7 (b3t h4),a57 (body:=fun s:(List j6)×Int=>b2E w s.1 s.2) w.a9 (h1.fits (by decide)) (fun l=>l) (by
  intro k hk;have hn:((w.a9.take k).length+1)*392<=140737488355328:=Nat.le_trans (f5M 392 (show (w.a9.take k).length+1<=w.a9.length by rw [f5G];omega)) (Nat.le_trans b1 (by decide));unfold b2E;rw [x8 _ k hk,t9 hk];simp only [cond_true,f5i,b1y (h1.2 _ (f5l hk)),u7 hn]) (by
  unfold b2E;rw [z9];rfl)]
 simp only [f5i,l9.go];unfold c2Y;rw [a57 (body:=fun s:(List l8)×Int=>b3g w s.1 s.2) w.c8 (h2.fits (by decide)) (fun l=>l) (by
  intro k hk;have hn:((w.c8.take k).length+1)*152<=140737488355328:=Nat.le_trans (f5M 152 (show (w.c8.take k).length+1<=w.c8.length by rw [f5G];omega)) (Nat.le_trans b2 (by decide));unfold b3g;rw [x8 _ k hk,t9 hk];simp only [cond_true,f5i,b6w (h2.2 _ (f5l hk)),u7 hn]) (by
  unfold b3g;rw [z9];rfl)]
 simp only [f5i,l9.go];unfold c0w;rw [a57 (body:=fun s:(List x6)×Int=>b3Y w s.1 s.2) w.d7 (h3.fits (by decide)) (fun l=>l) (by
  intro k hk;unfold b3Y;have hp:=(h3.2 _ (f5l hk)).2;have hn:((w.d7.take k).length+1)*40<=140737488355328:=Nat.le_trans (f5M 40 (show (w.d7.take k).length+1<=w.d7.length by rw [f5G];omega)) (Nat.le_trans b3 (by decide));rw [x8 _ k hk,t9 hk];simp only [cond_true,f5i,u7 (b3t hp),u7 hn,f6b]) (by
  unfold b3Y;rw [z9];rfl)]
 rfl
theorem c6t{l:List s5}(hl:s9 l)(he:∀e∈l,L1 e):∀(d k:Nat) (w:m5),WI w->l.length-k=d->p8 (fun s:(List j6)×(List l8)×(List x6)×(List n5)×Int=>a48 l s.1 s.2.1 s.2.2.1 s.2.2.2.1 s.2.2.2.2) (w.a9,w.c8,w.d7,w.Told,(k:Int))=some (.brk ((a1f w (l.drop k)).a9,(a1f w (l.drop k)).c8,(a1f w (l.drop k)).d7,(a1f w (l.drop k)).Told))
 | 0,k,w,h,hd=>by
  rw [f5F (by omega)];refine C6 ?_;show a48 l w.a9 w.c8 w.d7 w.Told (k:Int)=_
  unfold a48;rw [show decide ((k:Int)<(l.length:Int))=false by simp;omega];rfl
 | d+1,k,w,h,hd=>by
  have hlt:k<l.length:=by omega
  obtain ⟨h1,h2⟩:=a6v h (he _ (f5l hlt));have hb:a48 l w.a9 w.c8 w.d7 w.Told (k:Int)=some (.nxt ((D7 w l[k]).a9,(D7 w l[k]).c8,(D7 w l[k]).d7,(D7 w l[k]).Told,((k+1:Nat):Int))):=by
   unfold a48;rw [x8 _ k hlt,t9 hlt,cond_true,f5i,show (⟨w.a9,w.c8,w.d7,w.Told⟩:m5)=w from rfl,h1,f5i,E9 hl hlt]
  rw [E3 (body:=fun s:(List j6)×(List l8)×(List x6)×(List n5)×Int=>a48 l s.1 s.2.1 s.2.2.1 s.2.2.2.1 s.2.2.2.2) (s:=(w.a9,w.c8,w.d7,w.Told,(k:Int))) hb,c6t hl he d (k+1) _ h2 (by omega),f5z hlt];rfl
def noW:m5:=⟨[],[],[],[]⟩
theorem e9s{w:m5}(h:R7 w){l:List s5}(hl:s9 l)(he:∀e∈l,L1 e):b4D w l=some (bif C9 w&&decide (l.length<=400) then a1f w l else noW):=by
 unfold b4D;rw [b6o h,f5i,d5h h,show decide ((l.length:Int)>400) = !decide (l.length<=400) from b04 l 400];cases hw:C9 w
 ·rfl
 ·cases decide (l.length<=400)
  ·rfl
  ·simp only [f5n,cond_false,f5i,Bool.and_self,cond_true];rw [show p8 (fun s:(List j6)×(List l8)×(List x6)×(List n5)×Int=>a48 l s.1 s.2.1 s.2.2.1 s.2.2.2.1 s.2.2.2.2) (w.a9,w.c8,w.d7,w.Told,0)=_ from c6t hl he l.length 0 w (a4u.1 hw) rfl];rfl
theorem X3{k a:Int}{p:List n8}(h:p.length<=10):L1 ⟨k,a,p⟩:=⟨by show p.length*32<=_;omega,fun _ _=>trivial⟩
theorem e42(n:Int):∃v,b92 1 n=some v:=by
 unfold b92;cases decide ((1:Int)>n)<;>exact ⟨_,rfl⟩
theorem e3i{r:t7}{m:Nat}(h:Rd r m)(hm:m<=1000000)(w:m5):∃e r',b6A r w=some (e,r',w)/\Rd r' (m+210)/\L1 e:=by
 obtain ⟨v,hv⟩:=e42 (w.c8.length:Int);obtain ⟨a,r1,e1,h1,_⟩:=I6 h (by omega) v;obtain ⟨b,r2,e2,h2,_⟩:=I6 h1 (by omega) 24;have ask:∃e r',((F9 r2 3).bind fun p=>(a49 p.2).bind fun q=>some (s5.mk 1 p.1 q.1,q.2,w))=some (e,r',w)/\Rd r' (m+210)/\L1 e:=by
  obtain ⟨c,r3,e3,h3,_⟩:=I6 h2 (by omega) 3;obtain ⟨p,r4,e4,h4,hp⟩:=c1y h3 (by omega);rw [e3,f5i,e4,f5i];exact ⟨_,_,rfl,h4.mono (by omega),X3 hp⟩
 obtain ⟨c3,r3,e3,h3,_⟩:=I6 h2 (by omega) 3;obtain ⟨c4,r4,e4,h4,_⟩:=I6 h2 (by omega) 2;obtain ⟨c5,r5,e5,h5,_⟩:=I6 h4 (by omega) 3;obtain ⟨c6,r6,e6,h6,_⟩:=I6 h3 (by omega) 10;obtain ⟨c7,r7,e7,h7,_⟩:=I6 h6 (by omega) 5;obtain ⟨p,r8,e8,h8,hp⟩:=c1y h3 (by omega);have z:∀(k x:Int) (r:t7) (j:Nat),Rd r j->j<=m+210->∃e r',(some (s5.mk k x [],r,w):Option (s5×t7×m5))=some (e,r',w)/\Rd r' (m+210)/\L1 e:=fun k x r j hr hj=>⟨_,_,rfl,hr.mono hj,X3 (by simp)⟩
 unfold b6A;rw [hv,f5i,e1,f5i,e2,f5i];simp only [e3,e4,e5,e6,e7,e8,f5i];cases b==0
 ·cases b==1
  ·cases b==2
   ·cases b==3
    ·cases b==4
     ·cases b==5
      ·cases b==6
       ·cases b==7
        ·cases b==8
         ·cases b==9
          ·cases b==10
           ·exact z _ _ _ _ h2 (by omega)
           ·cases c3==0
            ·exact z _ _ _ _ h3 (by omega)
            ·exact z _ _ _ _ h7 (by omega)
          ·exact z _ _ _ _ h2 (by omega)
         ·exact z _ _ _ _ h2 (by omega)
        ·cases c4==0
         ·exact z _ _ _ _ h4 (by omega)
         ·exact z _ _ _ _ h5 (by omega)
       ·exact z _ _ _ _ h3 (by omega)
      ·exact z _ _ _ _ h3 (by omega)
     ·exact z _ _ _ _ h3 (by omega)
    ·exact ⟨_,_,rfl,h8.mono (by omega),X3 hp⟩
   ·exact ⟨_,_,rfl,h8.mono (by omega),X3 hp⟩
  ·exact ⟨_,_,rfl,h8.mono (by omega),X3 hp⟩
 ·exact ⟨_,_,rfl,h8.mono (by omega),X3 hp⟩
structure U3(w:m5)(out:List s5)(b:Nat):Prop where
 w:WI w
 e:∀x∈out,L1 x
 l:out.length<=b
theorem c9E{out:List s5}{e:s5}(h:∀x∈out,L1 x)(he:L1 e):∀x∈out++[e],L1 x:=by
 intro x hx;rcases List.mem_append.1 hx with q|q
 ·exact h x q
 ·rw [f5p.1 q];exact he
theorem a2s{w:m5}{out:List s5}{b:Nat}(h:U3 w out b)(hb:b<=1000){e:s5}(he:L1 e):a01 w out e=some (D7 w e,out++[e])/\U3 (D7 w e) (out++[e]) (b+1):=by
 obtain ⟨h1,h2⟩:=a6v h.w he;have hl:=h.l;unfold a01;rw [h1,f5i,u7 (by omega)];exact ⟨rfl,h2,c9E h.e he,by simp;omega⟩
theorem e8B{r:t7}{m:Nat}(h:Rd r m)(hm:m<=1000){w:m5}(hw:WI w){n:Nat}(hn:n<=90):∃l r',b8J r w (n:Int)=some (l,r')/\(∀e∈l,L1 e)/\l.length<=90/\Rd r' 1000000:=by
 have hloop:=b9C (body:=fun s:t7×(List s5)×(List n5)×(List x6)×(List l8)×(List j6)×Int=>b8E (n:Int) s.1 s.2.1 s.2.2.1 s.2.2.2.1 s.2.2.2.2.1 s.2.2.2.2.2.1 s.2.2.2.2.2.2)
  (fun k s=>k<=n/\s.2.2.2.2.2.2=((n-k:Nat):Int)/\WI ⟨s.2.2.2.2.2.1,s.2.2.2.2.1,s.2.2.2.1,s.2.2.1⟩/\(∀e∈s.2.1,L1 e)/\s.2.1.length=n-k/\Rd s.1 (m+210*(n-k)))
  (fun x => ∃ (r':t7) (l:List s5),x=.brk (r',l)/\(∀e∈l,L1 e)/\l.length<=90/\Rd r' 1000000) (by
   rintro k ⟨r1,out,told,asked,net,nodes,i⟩ ⟨hk,hi,hw,he,hl,hr⟩
   simp only at hi hw he hl hr;unfold b8E;rw [hi];cases k with
   | zero =>
    rw [show decide (((n-0:Nat):Int)<(n:Int))=false by simp];exact ⟨_,rfl,_,_,rfl,he,by simp only;omega,hr.mono (by omega)⟩
   | succ k =>
    rw [show decide (((n-(k+1):Nat):Int)<(n:Int))=true by simp;omega];obtain ⟨e,r2,ee,hr2,hee⟩:=e3i hr (by omega) ⟨nodes,net,asked,told⟩;obtain ⟨d1,d2⟩:=a6v hw hee;simp only [cond_true,ee,f5i];rw [u7 trivial,u7 trivial,u7 trivial,u7 trivial,u7 (by omega),b6o hw.ok,a4u.2 hw,d5h hw.ok];simp only [f5i,cond_true,d1,l9.go,c44];refine ⟨_,rfl,k,by omega,by omega,?_,d2,c9E he hee,by simp;omega,hr2.mono (by omega)⟩;rw [C2 (by omega) (by omega)];simp only;omega) (k:=n) (s:=(r,[],w.Told,w.d7,w.c8,w.a9,0)) ⟨f5y _,by simp,hw,by simp,by simp,by simpa using h⟩
 obtain ⟨x,hx,r',l,rfl,h1,h2⟩:=hloop;unfold b8J;rw [hx];exact ⟨l,r',rfl,h1,h2⟩
theorem d9u{w:m5}(h:0<w.c8.length):D7 w ⟨3,0,[]⟩=a28 w 0:=by
 unfold D7 a2E;simp only [show ((3:Int)==2)=false from rfl,show ((3:Int)==3)=true from rfl,show ((3:Int)==4)=false from rfl,Bool.or_false,f5R,cond_true,cond_false,show decide ((0:Int)<=0)=true from rfl,Int.toNat_zero];rw [f5j h]
theorem e3G(w:m5)(a:Int)(p:List n8):(D7 w ⟨5,a,p⟩).c8.length<=w.c8.length+3:=by
 unfold D7;simp only [show ((5:Int)==2)=false from rfl,show ((5:Int)==3)=false from rfl,show ((5:Int)==4)=false from rfl,show ((5:Int)==1)=false from rfl,show ((5:Int)==5)=true from rfl,Bool.or_false,cond_true,cond_false];cases !p9 a 0 2
 ·have:=b7f (I9 w a);simp only [cond_false,a0M,O6,f5u,f5G];omega
 ·simp
theorem c8p{b:Nat}:∀(d:Nat) (w:m5) (out:List s5),w.c8.length=d->U3 w out b->b+d<=1000->∃w' out',p8 (fun s:(List s5)×(List j6)×(List l8)×(List x6)×List n5=>a6O s.1 s.2.1 s.2.2.1 s.2.2.2.1 s.2.2.2.2) (out,w.a9,w.c8,w.d7,w.Told)=some (.brk (out',w'.a9,w'.c8,w'.d7,w'.Told))/\w'.c8=[]/\U3 w' out' (b+d)
 | 0,w,out,hd,h,hb=>by
  refine ⟨w,out,C6 ?_,f5t hd,h⟩;show a6O out w.a9 w.c8 w.d7 w.Told=_
  unfold a6O;rw [show decide ((w.c8.length:Int)>0)=false from decide_eq_false (by omega)];rfl
 | d+1,w,out,hd,h,hb=>by
  obtain ⟨t1,t2⟩:=a2s h (by omega) (e:=⟨3,0,[]⟩) (X3 (by simp));have hs:a6O out w.a9 w.c8 w.d7 w.Told=some (.nxt (out++[⟨3,0,[]⟩],(D7 w ⟨3,0,[]⟩).a9,(D7 w ⟨3,0,[]⟩).c8,(D7 w ⟨3,0,[]⟩).d7,(D7 w ⟨3,0,[]⟩).Told)):=by
   unfold a6O;rw [show decide ((w.c8.length:Int)>0)=true from decide_eq_true (by omega),cond_true,show (⟨w.a9,w.c8,w.d7,w.Told⟩:m5)=w from rfl,t1];rfl
  rw [E3 (body:=fun s:(List s5)×(List j6)×(List l8)×(List x6)×List n5=>a6O s.1 s.2.1 s.2.2.1 s.2.2.2.1 s.2.2.2.2) (s:=(out,w.a9,w.c8,w.d7,w.Told)) hs];obtain ⟨w',out',e1,e2,e3⟩:=c8p (b:=b+1) d (D7 w ⟨3,0,[]⟩) _ (by rw [d9u (by omega)];simp [a28];omega) t2 (by omega);exact ⟨w',out',e1,e2,⟨e3.w,e3.e,by have:=e3.l;omega⟩⟩
theorem d2W{p:Int×t7}{B:Nat}(hB:B<=900):∀(i:Nat) (w:m5) (out:List s5) (b:Nat),U3 w out b->b+w.c8.length+4*i<=B->i<=100->∃w' out',p8 (fun s:(List n5)×(List x6)×(List l8)×(List j6)×(List s5)×Int=>b07 p s.1 s.2.1 s.2.2.1 s.2.2.2.1 s.2.2.2.2.1 s.2.2.2.2.2) (w.Told,w.d7,w.c8,w.a9,out,(i:Int))=some (.brk (out',w'.a9,w'.c8,w'.d7,w'.Told))/\U3 w' out' B
 | 0,w,out,b,h,hb,hi=>by
  refine ⟨w,out,C6 ?_,h.w,h.e,by have:=h.l;omega⟩;rfl
 | i+1,w,out,b,h,hb,hi=>by
  obtain ⟨w1,out1,e1,e2,e3⟩:=c8p (b:=b) w.c8.length w out rfl h (by omega);obtain ⟨t1,t2⟩:=a2s e3 (by omega) (e:=⟨5,p.1,[]⟩) (X3 (by simp));have hs:b07 p w.Told w.d7 w.c8 w.a9 out ((i+1:Nat):Int)=some (.nxt ((D7 w1 ⟨5,p.1,[]⟩).Told,(D7 w1 ⟨5,p.1,[]⟩).d7,(D7 w1 ⟨5,p.1,[]⟩).c8,(D7 w1 ⟨5,p.1,[]⟩).a9,out1++[⟨5,p.1,[]⟩],(i:Int))):=by
   unfold b07;rw [show decide (((i+1:Nat):Int)>0)=true from decide_eq_true (by omega),cond_true,e1];simp only [f5i,l9.go,c5H];rw [show (⟨w1.a9,w1.c8,w1.d7,w1.Told⟩:m5)=w1 from rfl,t1,f5i,C2 (by omega) (by omega),show ((i+1:Nat):Int)-1=(i:Int) by omega]
  rw [E3 (body:=fun s:(List n5)×(List x6)×(List l8)×(List j6)×(List s5)×Int=>b07 p s.1 s.2.1 s.2.2.1 s.2.2.2.1 s.2.2.2.2.1 s.2.2.2.2.2) (s:=(w.Told,w.d7,w.c8,w.a9,out,((i+1:Nat):Int))) hs];have hn:=e3G w1 p.1 [];rw [e2] at hn;simp only [f6O,f6m] at hn;exact d2W hB i _ _ _ t2 (by omega) (by omega)
theorem e2o{r:t7}{m:Nat}(h:Rd r m)(hm:m<=1000){w:m5}{out:List s5}(hw:U3 w out 1):∃w' out' r',b6r r w out=some (w',out',r')/\U3 w' out' 130/\Rd r' (m+3):=by
 obtain ⟨a,r1,e1,h1,_⟩:=I6 h (by omega) 3;obtain ⟨v,r2,e2,h2,hv⟩:=b3M h1 (by omega) [3,8,20] (by simp) (by simp);obtain ⟨i,hi,hi20⟩:∃i:Nat,v=(i:Int)/\i<=20:=by
  simp at hv;rcases hv with rfl|rfl|rfl
  ·exact ⟨3,rfl,by omega⟩
  ·exact ⟨8,rfl,by omega⟩
  ·exact ⟨20,rfl,by omega⟩
 have hml:=hw.w.ml;obtain ⟨w',out',e3,e4⟩:=d2W (p:=(a,r1)) (B:=125) (by omega) i w out 1 hw (by omega) (by omega);have e4':U3 w' out' 125:=e4;unfold b6r;rw [e1,f5i,e2,f5i,hi,e3];simp only [f5i,l9.go,c2N];cases decide ((w'.c8.length:Int)>0)
 ·simp only [cond_false,f5i,l9.go,b9Q];obtain ⟨t1,t2⟩:=a2s e4' (by omega) (e:=⟨7,a,[]⟩) (X3 (by simp));rw [show (⟨w'.a9,w'.c8,w'.d7,w'.Told⟩:m5)=w' from rfl,t1];exact ⟨_,_,_,rfl,⟨t2.w,t2.e,by have:=t2.l;simp only;omega⟩,h2.mono (by omega)⟩
 ·obtain ⟨c,r3,e5,h5,_⟩:=I6 h2 (by omega) (w'.c8.length:Int);obtain ⟨t1,t2⟩:=a2s e4' (by omega) (e:=⟨2,c,[]⟩) (X3 (by simp));obtain ⟨u1,u2⟩:=a2s t2 (by omega) (e:=⟨7,a,[]⟩) (X3 (by simp));simp only [cond_true,e5,f5i];rw [show (⟨w'.a9,w'.c8,w'.d7,w'.Told⟩:m5)=w' from rfl,t1];simp only [f5i,l9.go,b9Q];rw [show (⟨(D7 w' ⟨2,c,[]⟩).a9,(D7 w' ⟨2,c,[]⟩).c8,(D7 w' ⟨2,c,[]⟩).d7,(D7 w' ⟨2,c,[]⟩).Told⟩:m5)=D7 w' ⟨2,c,[]⟩ from rfl,u1];exact ⟨_,_,_,rfl,⟨u2.w,u2.e,by have:=u2.l;simp only;omega⟩,h5.mono (by omega)⟩
theorem e5n{M:Nat}(hM:M<=100000){r:t7}{w:m5}{out:List s5}(h:U3 w out 290)(hr:Rd r (M+10*out.length)):∃w' out' r',p8 (fun s:t7×(List j6)×(List l8)×(List x6)×(List n5)×List s5=>b4p s.1 s.2.1 s.2.2.1 s.2.2.2.1 s.2.2.2.2.1 s.2.2.2.2.2) (r,w.a9,w.c8,w.d7,w.Told,out)=some (.brk (r',w'.a9,w'.c8,w'.d7,w'.Told,out'))/\U3 w' out' (max out.length 201)/\Rd r' (M+10*out'.length+2):=by
 have hloop:=b9C (body:=fun s:t7×(List j6)×(List l8)×(List x6)×(List n5)×List s5=>b4p s.1 s.2.1 s.2.2.1 s.2.2.2.1 s.2.2.2.2.1 s.2.2.2.2.2)
  (fun k s => ∃w:m5,s.2=(w.a9,w.c8,w.d7,w.Told,s.2.2.2.2.2)/\U3 w s.2.2.2.2.2 (max out.length 201)/\k=300-s.2.2.2.2.2.length/\Rd s.1 (M+10*s.2.2.2.2.2.length))
  (fun x => ∃ (w':m5) (out':List s5) (r':t7),x=.brk (r',w'.a9,w'.c8,w'.d7,w'.Told,out')/\U3 w' out' (max out.length 201)/\Rd r' (M+10*out'.length+2)) (by
   rintro k ⟨r1,s⟩ ⟨w1,hs,hf,hk,hr1⟩
   simp only at hs hf hk hr1;obtain ⟨nodes,net,asked,told,o⟩:=s;simp only at hs hf hk hr1;injection hs with e1 e2;injection e2 with e2 e3;injection e3 with e3 e4;injection e4 with e4 e5;subst e1;subst e2;subst e3;subst e4;have hl:=hf.l;have hol:=h.l;unfold b4p;cases decide ((w1.c8.length:Int)>0)
   ·exact ⟨_,rfl,w1,o,r1,rfl,hf,hr1.mono (by omega)⟩
   ·obtain ⟨a,r2,p1,p2,_⟩:=I6 hr1 (by omega) 9;simp only [cond_true,p1,f5i];cases decide (a>0)
    ·exact ⟨_,rfl,w1,o,r2,rfl,hf,p2.mono (by omega)⟩
    ·simp only [cond_true];by_cases h200:o.length<200
     ·rw [show decide ((o.length:Int)<200)=true from decide_eq_true (by omega)];obtain ⟨b,r3,q1,q2,_⟩:=I6 p2 (by omega) 8;have go:∀(w2:m5) (o2:List s5) (r4:t7) (j:Nat),U3 w2 o2 (max out.length 201)->o2.length<=200->Rd r4 j->j<=M+10*o2.length+4->o.length<=o2.length->∃st,b6m r4 w2.a9 w2.c8 w2.d7 w2.Told o2=some st/\match st with
        | .ret _=>False
        | .brk _=>False
        | .nxt t => ∃k',k'<k/\∃w:m5,t.2=(w.a9,w.c8,w.d7,w.Told,t.2.2.2.2.2)/\U3 w t.2.2.2.2.2 (max out.length 201)/\k'=300-t.2.2.2.2.2.length/\Rd t.1 (M+10*t.2.2.2.2.2.length):=by
       intro w2 o2 r4 j hf2 ho2 hr4 hj hle;obtain ⟨c,r5,x1,x2,_⟩:=I6 hr4 (by omega) (w2.c8.length:Int);obtain ⟨d,r6,y1,y2,_⟩:=b3M x2 (by omega) [0,0,c] (by simp) (by simp);obtain ⟨t1,t2⟩:=a2s (b:=200) ⟨hf2.w,hf2.e,ho2⟩ (by omega) (e:=⟨2,d,[]⟩) (X3 (by simp));unfold b6m;rw [x1,f5i,y1,f5i,show (⟨w2.a9,w2.c8,w2.d7,w2.Told⟩:m5)=w2 from rfl,t1];refine ⟨_,rfl,300-(o2++[(⟨2,d,[]⟩:s5)]).length,by simp;omega,D7 w2 ⟨2,d,[]⟩,rfl,⟨t2.w,t2.e,by simp;omega⟩,rfl,y2.mono (by simp;omega)⟩
      simp only [cond_true,q1,f5i];cases b==0
      ·obtain ⟨st,g1,g2⟩:=go w1 o r3 _ hf (by omega) q2 (by omega) (f5y _);refine ⟨st,g1,?_⟩;cases st with
       | ret _=>exact g2.elim
       | brk _=>exact g2.elim
       | nxt t=>exact g2
      ·obtain ⟨c,r4,x1,x2,_⟩:=I6 q2 (by omega) (w1.c8.length:Int);obtain ⟨t1,t2⟩:=a2s (b:=199) ⟨hf.w,hf.e,by omega⟩ (by omega) (e:=⟨4,c,[]⟩) (X3 (by simp));simp only [cond_true,x1,f5i];rw [show (⟨w1.a9,w1.c8,w1.d7,w1.Told⟩:m5)=w1 from rfl,t1];simp only [f5i,l9.go];have hl2:(o++[(⟨4,c,[]⟩:s5)]).length=o.length+1:=by simp
       obtain ⟨st,g1,g2⟩:=go (D7 w1 ⟨4,c,[]⟩) (o++[⟨4,c,[]⟩]) r4 _ ⟨t2.w,t2.e,by omega⟩ (by omega) x2 (by omega) (by omega);refine ⟨st,g1,?_⟩;cases st with
       | ret _=>exact g2.elim
       | brk _=>exact g2.elim
       | nxt t=>exact g2
     ·rw [show decide ((o.length:Int)<200)=false from decide_eq_false (by omega)];exact ⟨_,rfl,w1,o,r2,rfl,hf,p2.mono (by omega)⟩) (k:=300-out.length) (s:=(r,w.a9,w.c8,w.d7,w.Told,out)) ⟨w,rfl,⟨h.w,h.e,by simp only;omega⟩,rfl,hr⟩
 obtain ⟨x,hx,w',out',r',rfl,h1,h2⟩:=hloop;exact ⟨w',out',r',hx,h1,h2⟩
theorem d1M:∀(i:Nat) (r:t7) (w:m5) (out:List s5),i<=6->U3 w out (201+3*(6-i))->Rd r (10000-1000*i+10*out.length)->∃r' out',p8 (fun s:t7×(List j6)×(List l8)×(List x6)×(List n5)×(List s5)×Int=>b0q s.1 s.2.1 s.2.2.1 s.2.2.2.1 s.2.2.2.2.1 s.2.2.2.2.2.1 s.2.2.2.2.2.2) (r,w.a9,w.c8,w.d7,w.Told,out,(i:Int))=some (.brk (r',out'))/\(∀e∈out',L1 e)/\out'.length<=300/\Rd r' 1000000
 | 0,r,w,out,hi,h,hr=>⟨r,out,C6 rfl,h.e,by have:=h.l;omega,hr.mono (by have:=h.l;omega)⟩
 | i+1,r,w,out,hi,h,hr=>by
  have hl:=h.l;obtain ⟨a,r1,p1,p2,_⟩:=I6 hr (by omega) 3;obtain ⟨pr,r2,q1,q2,q3⟩:=c1y p2 (by omega);obtain ⟨t1,t2⟩:=a2s h (by omega) (e:=⟨1,a,pr⟩) (X3 q3);have hlen:(out++[(⟨1,a,pr⟩:s5)]).length=out.length+1:=by simp
  obtain ⟨w3,o3,r3,x1,x2,x3⟩:=e5n (M:=10000-1000*(i+1)+201) (by omega) (w:=D7 w ⟨1,a,pr⟩) (out:=out++[⟨1,a,pr⟩]) (r:=r2) ⟨t2.w,t2.e,by omega⟩ (q2.mono (by omega));have x2l:=x2.l;obtain ⟨b,r4,y1,y2,_⟩:=I6 x3 (by omega) 4;have fin:∀(w4:m5) (o4:List s5) (r5:t7) (j:Nat),U3 w4 o4 (201+3*(6-(i+1))+2)->Rd r5 j->j<=10000-1000*(i+1)+300+10*o4.length->∃w5 o5 r6,b5X ((i+1:Nat):Int) r5 w4.a9 w4.c8 w4.d7 w4.Told o4=some (.nxt (r6,w5.a9,w5.c8,w5.d7,w5.Told,o5,(i:Int)))/\U3 w5 o5 (201+3*(6-i))/\Rd r6 (10000-1000*i+10*o5.length):=by
   intro w4 o4 r5 j hf hr5 hj;have hfl:=hf.l;obtain ⟨c,r6,z1,z2,_⟩:=I6 hr5 (by omega) 3;obtain ⟨u1,u2⟩:=a2s hf (by omega) (e:=⟨6,c,[]⟩) (X3 (by simp));refine ⟨D7 w4 ⟨6,c,[]⟩,o4++[⟨6,c,[]⟩],r6,?_,⟨u2.w,u2.e,by have:=u2.l;omega⟩,z2.mono (by simp;omega)⟩;unfold b5X;rw [z1,f5i,show (⟨w4.a9,w4.c8,w4.d7,w4.Told⟩:m5)=w4 from rfl,u1,f5i,C2 (by omega) (by omega),show ((i+1:Nat):Int)-1=(i:Int) by omega]
  have hstep:∃w5 o5 r6,b0q r w.a9 w.c8 w.d7 w.Told out ((i+1:Nat):Int)=some (.nxt (r6,w5.a9,w5.c8,w5.d7,w5.Told,o5,(i:Int)))/\U3 w5 o5 (201+3*(6-i))/\Rd r6 (10000-1000*i+10*o5.length):=by
   unfold b0q;rw [show decide (((i+1:Nat):Int)>0)=true from decide_eq_true (by omega),cond_true,p1,f5i,q1,f5i,show (⟨w.a9,w.c8,w.d7,w.Told⟩:m5)=w from rfl,t1,f5i,x1];simp only [f5i,l9.go];unfold c4K;rw [y1,f5i];cases b==0
   ·cases b==1
    ·simp only [cond_false,f5i,l9.go];exact fin w3 o3 r4 _ ⟨x2.w,x2.e,by omega⟩ y2 (by omega)
    ·obtain ⟨c,r5,z1,z2,_⟩:=I6 y2 (by omega) 3;obtain ⟨u1,u2⟩:=a2s x2 (by omega) (e:=⟨5,c,[]⟩) (X3 (by simp));simp only [cond_false,cond_true,z1,f5i];rw [show (⟨w3.a9,w3.c8,w3.d7,w3.Told⟩:m5)=w3 from rfl,u1];simp only [f5i,l9.go];exact fin (D7 w3 ⟨5,c,[]⟩) _ r5 _ ⟨u2.w,u2.e,by have:=u2.l;omega⟩ z2 (by simp;omega)
   ·obtain ⟨c,r5,z1,z2,_⟩:=I6 y2 (by omega) 3;obtain ⟨u1,u2⟩:=a2s x2 (by omega) (e:=⟨7,c,[]⟩) (X3 (by simp));simp only [cond_true,z1,f5i];rw [show (⟨w3.a9,w3.c8,w3.d7,w3.Told⟩:m5)=w3 from rfl,u1];simp only [f5i,l9.go];exact fin (D7 w3 ⟨7,c,[]⟩) _ r5 _ ⟨u2.w,u2.e,by have:=u2.l;omega⟩ z2 (by simp;omega)
  obtain ⟨w5,o5,r6,s1,s2,s3⟩:=hstep;rw [E3 (body:=fun s:t7×(List j6)×(List l8)×(List x6)×(List n5)×(List s5)×Int=>b0q s.1 s.2.1 s.2.2.1 s.2.2.2.1 s.2.2.2.2.1 s.2.2.2.2.2.1 s.2.2.2.2.2.2) (s:=(r,w.a9,w.c8,w.d7,w.Told,out,((i+1:Nat):Int))) s1];exact d1M i r6 w5 o5 (by omega) s2 s3
theorem d8Q{r:t7}{m:Nat}(h:Rd r m)(hm:m<=100):∃l r',b77 r=some (l,r')/\(∀e∈l,L1 e)/\l.length<=300/\Rd r' 1000000:=by
 obtain ⟨a,r1,p1,p2,_⟩:=I6 h (by omega) 3;obtain ⟨t1,t2⟩:=a2s (w:=P8) (out:=[]) (b:=0) ⟨WI.open,by simp,by simp⟩ (by omega) (e:=⟨5,a,[]⟩) (X3 (by simp));obtain ⟨b,r2,q1,q2,_⟩:=I6 p2 (by omega) 3;unfold b77;rw [d4b,f5i,p1,f5i,t1,f5i,q1,f5i];have tail:∀(w:m5) (out:List s5) (r3:t7) (j:Nat),U3 w out 130->Rd r3 j->j<=200->∃l r',b9p r3 w.a9 w.c8 w.d7 w.Told out=some (l,r')/\(∀e∈l,L1 e)/\l.length<=300/\Rd r' 1000000:=by
  intro w out r3 j hf hr3 hj;obtain ⟨c,r4,x1,x2,x3,x4⟩:=I6 hr3 (by omega) 3;obtain ⟨i,hi,hi6⟩:∃i:Nat,m8 (3+c)=(i:Int)/\i<=6:=⟨(3+c).toNat,by rw [C2 (by omega) (by omega)];omega,by omega⟩
  obtain ⟨r',out',e1,e2,e3⟩:=d1M i r4 w out hi6 ⟨hf.w,hf.e,by have:=hf.l;omega⟩ (x2.mono (by omega));unfold b9p;rw [x1,f5i,hi,e1];exact ⟨out',r',rfl,e2,e3⟩
 have tf:U3 (D7 P8 ⟨5,a,[]⟩) ([]++[(⟨5,a,[]⟩:s5)]) 1:=t2;cases decide (b>0)
 ·obtain ⟨c,r3,x1,x2,_⟩:=I6 q2 (by omega) 5;simp only [cond_false,x1,f5i];cases c==0
  ·exact tail _ _ r3 _ ⟨tf.w,tf.e,by simp⟩ x2 (by omega)
  ·obtain ⟨w',o',r',y1,y2,y3⟩:=e2o x2 (by omega) tf;simp only [cond_true];rw [y1];exact tail w' o' r' _ y2 y3 (by omega)
 ·obtain ⟨v,r3,x1,x2,x3⟩:=b3M q2 (by omega) [10,30,60,90] (by simp) (by simp);obtain ⟨n,hn,hn90⟩:∃n:Nat,v=(n:Int)/\n<=90:=by
   simp at x3;rcases x3 with rfl|rfl|rfl|rfl
   ·exact ⟨10,rfl,by omega⟩
   ·exact ⟨30,rfl,by omega⟩
   ·exact ⟨60,rfl,by omega⟩
   ·exact ⟨90,rfl,by omega⟩
  obtain ⟨l,r4,y1,y2,y3,y4⟩:=e8B x2 (by omega) tf.w hn90;simp only [cond_true,x1,f5i];rw [hn,y1,f5i,u7 (by simp;omega)];refine ⟨_,_,rfl,?_,by simp;omega,y4⟩;intro e he;rcases List.mem_append.1 he with q|q
  ·exact tf.e e q
  ·exact y2 e q
theorem e2u{code:List Int}(h:∀x∈code,a6i x):∃l,b64 code=some l/\(∀e∈l,L1 e)/\l.length<=300:=by
 obtain ⟨r,h1,h2⟩:=e4Z h;obtain ⟨l,r',e1,e2,e3,_⟩:=d8Q h2 (by omega);unfold b64;rw [h1,f5i,e1];exact ⟨l,rfl,e2,e3⟩
theorem a7M{α:Type}{l:List α}(z:α)(b:Nat)(h:l.length*b<=140737488351232):(bif ((l.length:Int)==0) then some [] else t5 (0<=(l.length:Int)/\(l.length:Int)*(b:Int)<=140737488355328) (t5 (l.length=(f5k (l.length:Int).toNat z).length) (some l)))=some l:=by
 cases hl:((l.length:Int)==0)
 ·have:(l.length:Int)*(b:Int)=((l.length*b:Nat):Int):=by rw [Int.natCast_mul]
  rw [cond_false,u7 ⟨by omega,by omega⟩,u7 (by simp)]
 ·simp only [beq_iff_eq] at hl;rw [f5t (by omega:l.length=0)];rfl
theorem b5N{α R:Type}{body:List α×Int->Option (l7 R (List α×Int) (List α))}(l:List α)(hl:s9 l)(h1:∀(k:Nat) (hk:k<l.length),body (l,(k:Int))=some (.nxt (l.set k l[k],m8 ((k:Int)+1))))(h2:body (l,(l.length:Int))=some (.brk l)):p8 body (l,0)=some (.brk l):=by
 have:=W4 (body:=body) (fun k=>(l,(k:Int))) l.length fun k hk=>by rw [h1 k hk,E9 hl hk,f7j]
 exact this.trans (C6 h2)
theorem a6m{α:Type}{body:Int->Option (l7 Bool Int Unit)}(l:List α)(hl:s9 l)(h1:∀(k:Nat) (hk:k<l.length),body (k:Int)=some (.nxt (m8 ((k:Int)+1))))(h2:body (l.length:Int)=some (.brk ())):p8 body 0=some (.brk ()):=by
 have:=W4 (body:=body) (fun k=>(k:Int)) l.length fun k hk=>by rw [h1 k hk,E9 hl hk]
 exact this.trans (C6 h2)
theorem b8k{l:List m7}(h:A3 96 T7 l):a87 l=some l:=by
 unfold a87;rw [show c45 l=some l from a7M _ 96 h.1,f5i,b5N l (h.fits (by decide))]
 ·rfl
 ·intro k hk;unfold b6f;rw [x8 _ k hk,cond_true,t9 hk,f5i,b3E (h.2 _ (f5l hk)).2];rfl
 ·unfold b6f;rw [z9];rfl
theorem b8P{x:z0}(h:a7a x):a5s x=some x:=by
 unfold a5s;rw [b8k h.2];rfl
theorem d4P{l:List Bool}(h:A3 1 okT l):b5e l=some l:=a7M _ 1 h.1
theorem c8e{l:List n8}(h:l.length*32<=140737488351232):a8l l=some l:=a7M _ 32 h
theorem d15{l:List n5}(h:l.length*40<=140737488351232):b6i l=some l:=a7M _ 40 h
theorem b9N{n:j6}(h:S4 n):a8O n=some n:=by
 obtain ⟨h1,h2,h3,h4,h5,h6,h7,h8,h9,h10,h11,h12,h13⟩:=h;unfold a8O;rw [b8P h2,f5i,c2W h3,f5i,d4P h7,f5i,b8k h8,f5i,b3E h9,f5i,d4P h10,f5i,c8e h11.1,f5i,b3E h12,f5i,c2W h13];rfl
theorem f2t{m:l8}(h:a0j m):b65 m=some m:=by
 unfold b65;rw [b3E h.2.2.2.2.2.1,f5i,b8k h.2.2.2.2.2.2];rfl
theorem c8E{l:List l8}(h:A3 152 a0j l):b2H l=some l:=by
 unfold b2H;rw [show c5i l=some l from a7M _ 152 h.1,f5i,b5N l (h.fits (by decide))]
 ·rfl
 ·intro k hk;unfold b9R;rw [x8 _ k hk,cond_true,t9 hk,f5i,f2t (h.2 _ (f5l hk))];rfl
 ·unfold b9R;rw [z9];rfl
theorem c0c{w:m5}(h:R7 w):a1S w=some w:=by
 obtain ⟨h1,h2,h3,h4⟩:=h;unfold a1S c1H;rw [show c1F w.a9=some w.a9 from a7M _ 392 h1.1,f5i,c8E h2,f5i,show c5k w.d7=some w.d7 from a7M _ 40 h3.1,f5i,d15 h4.1,f5i,b5N w.a9 (h1.fits (by decide))]
 ·simp only [f5i,l9.go];rw [b5N w.d7 (h3.fits (by decide))]
  ·rfl
  ·intro k hk;unfold b5n;rw [x8 _ k hk,cond_true,t9 hk,f5i,c8e (h3.2 _ (f5l hk)).2.1];rfl
  ·unfold b5n;rw [z9];rfl
 ·intro k hk;unfold b8m;rw [x8 _ k hk,cond_true,t9 hk,f5i,b9N (h1.2 _ (f5l hk))];rfl
 ·unfold b8m;rw [z9];rfl
theorem d77:b7U=some P8:=by
 unfold b7U;have e:∀i:Int,0<=i->i<=2->b6U i=some (C5 i):=fun i h1 h2=>by
  unfold b6U;rw [M7,f5i,p9,decide_eq_true ⟨h1,h2⟩];rfl
 rw [E3 (t:=([C5 0],1)) (by unfold b1x;rw [e 0 (by omega) (by omega)];rfl),E3 (t:=([C5 0,C5 1],2)) (by unfold b1x;rw [e 1 (by omega) (by omega)];rfl),E3 (t:=([C5 0,C5 1,C5 2],3)) (by unfold b1x;rw [e 2 (by omega) (by omega)];rfl),C6 (b:=[C5 0,C5 1,C5 2]) (by unfold b1x;rfl)];show (a1S P8).bind _=_
 rw [c0c WI.open.ok];rfl
theorem b30{e:m4}(h:F3 e):a0r e e=some true:=by
 unfold a0r;have:a4i e.b7 e.b7=true:=(c4o _ _).2 rfl;simp only [beq_self_eq_true,cond_true,c3Z h.2.f,this,f5i]
theorem c4v{l:List m7}(h:A3 96 T7 l):a93 l l=some true:=by
 unfold a93;rw [bne_self_eq_false,cond_false,a6m l (h.fits (by decide))]
 ·rfl
 ·intro k hk;unfold b7W;simp only [x8 _ k hk,cond_true,t9 hk,f5i,bne_self_eq_false,cond_false,b30 (h.2 _ (f5l hk)).2,f5n]
 ·unfold b7W;rw [z9];rfl
theorem c9O{l:List m4}(h:A3 88 F3 l):b1D l l=some true:=by
 unfold b1D;rw [bne_self_eq_false,cond_false,a6m l (h.fits (by decide))]
 ·rfl
 ·intro k hk;unfold b8b;simp only [x8 _ k hk,cond_true,t9 hk,f5i,cond_false,b30 (h.2 _ (f5l hk)),f5n]
 ·unfold b8b;rw [z9];rfl
theorem c7J{l:List Bool}(h:s9 l):b2l l l=some true:=by
 unfold b2l;rw [bne_self_eq_false,cond_false,a6m l h]
 ·rfl
 ·intro k hk;unfold b46;simp only [x8 _ k hk,cond_true,t9 hk,f5i,beq_self_eq_true,cond_false,f5n]
 ·unfold b46;rw [z9];rfl
theorem c6F{l:List n8}(h:s9 l):b1J l l=some true:=by
 unfold b1J c5p;rw [bne_self_eq_false,cond_false,a6m l h]
 ·rfl
 ·intro k hk;unfold b5r;simp only [x8 _ k hk,cond_true,t9 hk,f5i,beq_self_eq_true,cond_false,f5n]
 ·unfold b5r;rw [z9];rfl
theorem d8n{l:List n5}(h:s9 l):c0g l l=some true:=by
 unfold c0g;rw [bne_self_eq_false,cond_false,a6m l h]
 ·rfl
 ·intro k hk;unfold b87;simp only [x8 _ k hk,cond_true,t9 hk,f5i,beq_self_eq_true,cond_false,f5n]
 ·unfold b87;rw [z9];rfl
theorem d6T{n:j6}(h:S4 n):b7l n n=some true:=by
 obtain ⟨h1,h2,h3,h4,h5,h6,h7,h8,h9,h10,h11,h12,h13⟩:=h;unfold b7l c3l;simp only [beq_self_eq_true,cond_true,c4v h2.2,c9O h3,c7J (h7.fits (by decide)),c4v h8,b30 h9,c7J (h10.fits (by decide)),c6F (h11.fits (by decide)),b30 h12,c9O h13,f5i]
theorem e4J{w:m5}(h:R7 w):b84 w w=some true:=by
 obtain ⟨h1,h2,h3,h4⟩:=h;unfold b84 c2E c4y;simp only [bne_self_eq_false,cond_false,d8n (h4.fits (by decide)),f5i,f5n];rw [a6m w.a9 (h1.fits (by decide)) (fun k hk=>by
  unfold b8d;simp only [x8 _ k hk,cond_true,t9 hk,f5i,d6T (h1.2 _ (f5l hk)),cond_false,f5n]) (by unfold b8d;rw [z9];rfl)]
 simp only [f5i,l9.go];rw [a6m w.c8 (h2.fits (by decide)) (fun k hk=>by
  have:=h2.2 _ (f5l hk);unfold c0l c5o;simp only [x8 _ k hk,cond_true,t9 hk,f5i,beq_self_eq_true,b30 this.2.2.2.2.2.1,c4v this.2.2.2.2.2.2,cond_false,f5n]) (by unfold c0l;rw [z9];rfl)]
 simp only [f5i,l9.go];rw [a6m w.d7 (h3.fits (by decide)) (fun k hk=>by
  unfold b5D;simp only [x8 _ k hk,cond_true,t9 hk,f5i,beq_self_eq_true,c6F ((h3.2 _ (f5l hk)).2.fits (by decide)),cond_false,f5n]) (by unfold b5D;rw [z9];rfl)]
 rfl
theorem d4v{a:o9}(h:s9 a.n.a5)(q:n7):b3e a q=some (M9 a.n.a5 q,a):=by
 unfold b3e;rw [b13 h,f5i,c1R];cases a.n.a5.findIdx? (D2 q) with
 | none=>rfl
 | some k=>simp
theorem e8o{a:o9}(h:s9 a.n.a5)(q:n7):b5q a q=some (M9 a.n.a5 q,a):=by
 unfold b5q;rw [b13 h,f5i,c1R];cases a.n.a5.findIdx? (D2 q) with
 | none=>rfl
 | some k=>simp
def qA(a:o9)(q:List m4):o9:=⟨{a.n with f0:=q},a.out,a.told⟩
theorem d7N{a:o9}{q:List m4}(h:a.n.f0=q):qA a q=a:=by
 subst h;rfl
theorem d6y{known:List m4}(hk:s9 known):∀(q:List m4) (a:o9),a.n.a5=known->A3 88 F3 q->a.n.f0=q->p8 (fun s:o9=>a43 s) a=some (match T8 known q with
  | (q',some e)=>.ret (e,true,qA a q')
  | (q',none)=>.brk (qA a q'))
 | [],a,h1,_,h2=>by
  rw [C6 (body:=fun s:o9=>a43 s) (b:=a) (by unfold a43;rw [h2];rfl)];show _=some (l9.brk (qA a []))
  rw [d7N h2]
 | e::q,a,h1,hq,h2=>by
  have hl:(e::q).length*88<=140737488351232:=hq.1;rw [f6n] at hl;have hb:a43 a=some (bif M9 known e.a0 then .nxt (qA a q) else .ret (e,true,qA a q)):=by
   unfold a43;rw [h2,show idx (e::q) 0=some e from rfl,show decide ((((e::q).length:Nat):Int)>0)=true by simp,cond_true,f5i,u7 (by simp;omega),show ((e::q).drop (1:Int).toNat).take ((e::q).length-(1:Int).toNat)=q by simp];rw [show (⟨⟨a.n.Id,a.n.Acc,a.n.a5,a.n.Seq,a.n.d8,a.n.a7,a.n.c9,a.n.i0,a.n.d6,a.n.a6,a.n.i9,a.n.i6,a.n.b8,q⟩,a.out,a.told⟩:o9)=qA a q from rfl,d4v (a:=qA a q) (by show s9 a.n.a5;rw [h1];exact hk),f5i,show (qA a q).n.a5=known from h1];cases M9 known e.a0<;>rfl
  unfold T8;cases hkn:M9 known e.a0
  ·rw [V8 (body:=fun s:o9=>a43 s) (r:=(e,true,qA a q)) (by rw [hb,hkn];rfl)];rfl
  ·rw [E3 (body:=fun s:o9=>a43 s) (t:=qA a q) (by rw [hb,hkn];rfl),d6y hk q (qA a q) h1 ⟨by omega,fun x hx=>hq.2 x (f7q _ hx)⟩ rfl];rfl
def b4S(a:o9)(x:j6×Option m4):m4×Bool×o9:=match x with
 | (n,some e)=>(e,true,⟨n,a.out,a.told⟩)
 | (n,none)=>(zE,false,⟨n,a.out,a.told⟩)
theorem e3V{a:o9}(hf:s9 a.n.i0)(hv:∀v∈a.n.i0,0<=v.a7):∀(m k:Nat),a.n.i0.length-k=m->p8 (fun s:Int=>a4G a s) (k:Int)=some (bif (a.n.i0.drop k).any (fun v=>decide (v.a7>0)) then .ret (eN,true,a) else .brk ()):=by
 intro m;induction m with
 | zero =>
  intro k hk;rw [C6 (body:=fun s:Int=>a4G a s) (b:=()) (by unfold a4G;rw [show decide ((k:Int)<(a.n.i0.length:Int))=false by simp;omega];rfl),f5F (by omega)];rfl
 | succ m ih =>
  intro k hk;have hlt:k<a.n.i0.length:=by omega
  have hb:a4G a (k:Int)=some (bif decide (a.n.i0[k].a7>0) then .ret (eN,true,a) else .nxt ((k+1:Nat):Int)):=by
   have h0:=hv _ (f5l hlt);unfold a4G;rw [x8 _ k hlt,cond_true,t9 hlt,f5i,E9 hf hlt,show (a.n.i0[k].a7 != 0)=decide (a.n.i0[k].a7>0) by
    rw [f6P];simp;omega]
   cases decide (a.n.i0[k].a7>0)<;>rfl
  rw [f5z hlt,f7r];cases hd:decide (a.n.i0[k].a7>0)
  ·rw [hd] at hb;rw [E3 (body:=fun s:Int=>a4G a s) hb,ih (k+1) (by omega),f5R]
  ·rw [hd] at hb;rw [V8 (body:=fun s:Int=>a4G a s) hb,f7k];rfl
theorem e68{a:o9}(h:S4 a.n)(hv:∀v∈a.n.i0,0<=v.a7):b8a a=some (b4S a (a0D a.n)):=by
 obtain ⟨h1,h2,h3,h4,h5,h6,h7,h8,h9,h10,h11,h12,h13⟩:=h;have hk:s9 a.n.a5:=h3.fits (by decide);have hbf:s9 a.n.i0:=h8.fits (by decide);have j1:b95 a=some (b4S a ({a.n with f0:=(T8 a.n.a5 a.n.f0).1},(T8 a.n.a5 a.n.f0).2)):=by
  unfold b95;rw [d6y hk _ a rfl h13 rfl];obtain ⟨q,o⟩:=T8 a.n.a5 a.n.f0;cases o<;>rfl
 have j2:(∀v,a.n.i0[a.n.a5.length]?=some v->¬v.a7>0)->b7g a=some (b4S a (a4A a.n)):=by
  intro hn;have hd:(a.n.i0.drop (a.n.a5.length+1)).any (fun v=>decide (v.a7>0))=(a.n.i0.drop a.n.a5.length).any (fun v=>decide (v.a7>0)):=by
   by_cases hl:a.n.a5.length<a.n.i0.length
   ·rw [f5z hl,f7r,show decide (a.n.i0[a.n.a5.length].a7>0)=false by
     simpa using hn _ (f5j hl),f5R]
   ·rw [f5F (by omega),f5F (by omega)]
  unfold b7g a4A;rw [C2 (by omega) (by have:=h3.1;omega),show ((a.n.a5.length:Int)+1)=((a.n.a5.length+1:Nat):Int) from rfl,e3V hbf hv _ _ rfl,hd];generalize (({a.n with f0:=(T8 a.n.a5 a.n.f0).1},(T8 a.n.a5 a.n.f0).2):j6×Option m4)=X at j1 ⊢;cases (a.n.i0.drop a.n.a5.length).any fun v=>decide (v.a7>0)
  ·simp only [cond_false,f5i,l9.go];unfold c1C;cases a.n.i9
   ·exact j1
   ·simp only [cond_true,d4v hk,f5i,f5v];cases M9 a.n.a5 a.n.b8.a0
    ·rfl
    ·exact j1
  ·rfl
 unfold b8a a0D;by_cases hl:a.n.a5.length<a.n.i0.length
 ·rw [x8 _ _ hl,t9 hl,f5j hl];have h0:=hv _ (f5l hl);rw [cond_true,f5i,show (a.n.i0[a.n.a5.length].a7 != 0)=decide (a.n.i0[a.n.a5.length].a7>0) by rw [f6P];simp;omega];simp only;cases hd:decide (a.n.i0[a.n.a5.length].a7>0)
  ·exact j2 (by rw [f5j hl];intro v hv;injection hv with hv;subst hv;simpa using hd)
  ·rfl
 ·rw [show decide ((a.n.a5.length:Int)<(a.n.i0.length:Int))=false by simp;omega,f5O (by omega)];exact j2 (by rw [f5O (by omega)];simp)
theorem NI.accOk{n:j6}(h:NI n):O8 n.Acc=true/\a7a n.Acc:=by
 have:=a1n.2 h;unfold D8 at this;simp only [f5m] at this;exact ⟨by simp_all,h.ok.2.1⟩
theorem b54{a:z0}(h:O8 a=true)(ho:a7a a)(b:Int):b0i a b=some (match I3 a b with|some x=>(x,true)|none=>(a,false)):=by
 unfold b0i I3 a9V;rw [d0W ho,f5i,h,b8P ho,M7];simp only [f5n,cond_false,f5i];cases p9 b 1 3000
 ·rfl
 ·cases hd:decide (b<a.g9)
  ·rw [show decide (a.g9<=b)=true by simp at hd ⊢;omega];rfl
  ·rw [show decide (a.g9<=b)=false by simp at hd ⊢;omega];rfl
theorem e50{a:z0}(h:O8 a=true)(ho:a7a a)(b:Int):c5V a b=some (match I3 a b with|some x=>(x,true)|none=>(a,false)):=b54 h ho b
theorem c6m(slot:Nat)(hs:slot<40):∀(m:Nat) (vs:List m7),slot+1-vs.length=m->p8 (fun s:List m7=>a8V (slot:Int) s) vs=some (.brk (T4 vs (slot+1)))
 | 0,vs,hm=>by
  rw [C6 (body:=fun s:List m7=>a8V (slot:Int) s) (b:=vs) (by unfold a8V;rw [show decide ((vs.length:Int)<=(slot:Int))=false by simp;omega];rfl)];unfold T4;rw [hm];simp
 | m+1,vs,hm=>by
  rw [E3 (body:=fun s:List m7=>a8V (slot:Int) s) (t:=vs++[v0]) (by unfold a8V;rw [show decide ((vs.length:Int)<=(slot:Int))=true by simp;omega,cond_true,u7 (by omega)];rfl),c6m slot hs m _ (by simp;omega)];unfold T4;rw [f5u,f6o,show slot+1-vs.length=(slot+1-(vs.length+1))+1 by omega,f7c,f5B];rfl
theorem c9u{a:z0}(h:O8 a=true)(ho:a7a a)(hl:a.a6.length<=40){b s:Int}(hb:I8 b){e:m4}(he:F3 e):b2M a b s e=some (match K5 a b s e with|some x=>(x,true)|none=>(a,false)):=by
 unfold b2M K5;rw [e50 h ho,f5i,M7,a6E he.f,b8P ho];cases hp:I3 a b with
 | none=>cases p9 s 0 39&&z5 e<;>rfl
 | some x =>
  obtain ⟨rfl,hb1,hb2,hb3⟩:=a4m hp;simp only [f5n,cond_false,f5i];cases hs:p9 s 0 39
  ·rfl
  cases z5 e
  ·rfl
  obtain ⟨k,rfl⟩:∃k:Nat,s=(k:Int):=⟨s.toNat,by rw [K4] at hs;omega⟩
  rw [K4] at hs;have hlen:=b48 a.a6 (k+1);have hk:k<(T4 a.a6 (k+1)).length:=by rw [hlen];omega
  simp only [f5n,Bool.and_self,cond_false,cond_true,f5i,f6x,f5I];rw [c6m k (by omega) _ _ rfl];simp only [f5i,l9.go,c1X];rw [t9 hk,f5i,f5I,b8P (x:=⟨b,(T4 a.a6 (k+1)).set k ⟨b,e⟩⟩) ⟨hb,a0k (by rw [f6B,hlen];omega) (by
   intro v hv;rcases List.mem_or_eq_of_mem_set hv with q|q
   ·rcases c3y q with q|q
    ·exact ho.2.2 v q
    ·rw [q];exact d5C
   ·rw [q];exact ⟨hb,he⟩)⟩]
  rfl
theorem a8F{a:o9}(h:a.out.length<=1000)(to:Int)(m:l8):a4t a to m=some ⟨a.n,a.out++[{m with c9:=a.n.Id,To:=to}],a.told⟩:=by
 unfold a4t;rw [u7 (by omega)]
def a0Q(m:l8)(a:o9)(t:Int):o9:=bif t != a.n.Id then ⟨a.n,a.out++[{m with c9:=a.n.Id,To:=t}],a.told⟩ else a
theorem c76(m:l8)(a:o9)(t:Int):(a0Q m a t).out.length<=a.out.length+1:=by
 unfold a0Q;cases t != a.n.Id<;>simp
theorem a53{a:o9}(hid:0<=a.n.Id/\a.n.Id<=2)(h:a.out.length<=900)(m:l8):a3u a m=some ⟨a.n,a.out++I4 a.n.Id m,a.told⟩:=by
 have e:∀(a:o9) (t:Int),a.out.length<=1000->0<=t->t<3->a5l m t a=some (.nxt (t+1,a0Q m a t)):=by
  intro a t ho h0 h1;unfold a5l c2q a0Q;rw [show decide (t<3)=true by simpa using h1,cond_true,a8F ho,C2 (by omega) (by omega)];cases t != a.n.Id<;>rfl
 have l1:=c76 m a 0;have l2:=c76 m (a0Q m a 0) (0+1);have h0:=E3 (body:=fun s:Int×o9=>a5l m s.1 s.2) (s:=(0,a)) (e a 0 (by omega) (by omega) (by omega));have h1:=E3 (body:=fun s:Int×o9=>a5l m s.1 s.2) (s:=(0+1,a0Q m a 0)) (e (a0Q m a 0) (0+1) (by omega) (by omega) (by omega));have h2:=E3 (body:=fun s:Int×o9=>a5l m s.1 s.2) (s:=(0+1+1,a0Q m (a0Q m a 0) (0+1))) (e (a0Q m (a0Q m a 0) (0+1)) (0+1+1) (by omega) (by omega) (by omega));have h3:=V8 (body:=fun s:Int×o9=>a5l m s.1 s.2) (s:=(0+1+1+1,a0Q m (a0Q m (a0Q m a 0) (0+1)) (0+1+1))) (show a5l m (0+1+1+1) _=_ from rfl);unfold a3u;rw [h0,h1,h2,h3];obtain ⟨n,o,t⟩:=a;simp only [f5i,l9.go];have hid':n.Id=0\/n.Id=1\/n.Id=2:=by have:=hid.1;have:=hid.2;simp only at *;omega
 rcases hid' with q|q|q<;>simp [a0Q,I4,q]
theorem d3o{a:o9}(h:0<=a.n.Id/\a.n.Id<=2):b1K a=some (a03 a.n.Id,a):=by
 obtain ⟨y,hy⟩:=c1f h;unfold b1K;rw [u7 (by decide),hy];rfl
theorem c09(a:o9):b34 a=some ⟨a3v a.n,a.out,a.told⟩:=rfl
theorem b5o(a:o9)(b:Int):a92 a b=some ⟨N0 a.n b,a.out,a.told⟩:=by
 unfold a92 N0;rw [c09];cases a.n.d8 != 0
 ·rfl
 ·cases decide (b>a.n.a7)<;>rfl
theorem a0O.bal0{n:j6}(h:a0O n):∀v∈n.i0,0<=v.a7:=fun v hv=>(h.best.2 v hv).bal.1
def Y8(a:o9)(x:j6×List l8):o9:=⟨x.1,a.out++x.2,a.told⟩
theorem a9l(a:o9):Y8 a (a.n,[])=a:=by
 unfold Y8;rw [f5S]
theorem b3z{a:o9}(h:NI a.n)(ho:a.out.length<=900):a5W a=some (Y8 a (M1 a.n)):=by
 unfold a5W M1;rw [show decide ((a.n.a5.length:Int)>=40)=decide (40<=a.n.a5.length) by simp;omega];cases a.n.d8 != 2
 ·simp only [cond_false,f5R];cases hlt:decide (40<=a.n.a5.length)
  ·simp only [cond_false,e68 h.ok h.ld.bal0,f5i];obtain ⟨q,hq,hql,hqm,hqe⟩:=b01 a.n;cases hx:a0D a.n with
   | mk x o =>
   rw [hx] at hq hqe;have hq:x={a.n with f0:=q}:=hq;subst hq;cases o with
   | none =>
    simp only [b4S,f5J,cond_true,Y8];rw [f5S]
   | some e =>
    have he:=(hqe e rfl).ok h.ok;obtain ⟨c1,c2⟩:=h.accOk;simp only [b4S,f5n,cond_false];rw [c9u (a:=a.n.Acc) c1 c2 h.vl h.ok.2.2.2.2.2.1 he,f5i];simp only [a6M];cases hc:K5 a.n.Acc a.n.a7 (a.n.a5.length:Int) e with
    | none =>
     simp only [f5J,cond_true,c09,f5i,Y8];rw [f5S]
    | some x =>
     simp only [f5n,cond_false];rw [d3o (by exact h.id),f5i];simp only;rw [a53 (by exact h.id) (by exact ho)];rfl
  ·simp only [cond_true];rw [a9l]
 ·simp only [cond_true,f7k];rw [a9l]
def a2R(a:o9)(x:j6×List l8×List n5):o9:=⟨x.1,a.out++x.2.1,a.told++x.2.2⟩
theorem b5T(a:o9):a2R a (a.n,[],[])=a:=by
 unfold a2R;rw [f5S,f5S]
theorem e8W{a:o9}(h:NI a.n)(ho:a.out.length<=900)(ht:a.told.length<=900):b91 a=some (a2R a ((M1 (U5 a.n).1).1,(M1 (U5 a.n).1).2,(U5 a.n).2)):=by
 have hk:s9 a.n.a5:=h.ok.2.2.1.fits (by decide);obtain ⟨hl,he⟩:=X0 h.list;have j1:∀b:o9,NI b.n->b.out.length<=900->b9r b=some (Y8 b (M1 b.n)):=by
  intro b hb hbo;unfold b9r;rw [b3z hb hbo];rfl
 unfold b91 U5;rw [b13 hk,f5i];cases hb:a.n.i9
 ·simp only [cond_false,f5i,l9.go];rw [j1 a h ho];simp only [Y8,a2R,f5S]
 ·cases hf:a.n.a5.findIdx? (D2 a.n.b8.a0) with
  | none =>
   simp only [cond_true];rw [show decide ((-1:Int)>=0)=false from rfl];simp only [cond_false,f5i,l9.go];rw [j1 a h ho];simp only [Y8,a2R,f5S]
  | some k =>
   obtain ⟨hkl,h1,h2⟩:=b36 hf;have hlen:(o8 a.n.a5).2.length=a.n.a5.length:=by
    have:=(P3 hl he a.n.a5.length (f5y _)).2.1;rwa [f5C] at this
   have hc:idx (o8 a.n.a5).2 (k:Int)=some (K1 a.n.a5 k):=by
    rw [t9 (by omega)];unfold K1;rw [f5j (by omega)];rfl
   have hj2:∀v:Int,b8p a (K1 a.n.a5 k) v=some (.brk ⟨a6C a.n,a.out,a.told++[⟨a.n.Id,a.n.b8.a0,K1 a.n.a5 k,v⟩]⟩):=by
    intro v;unfold b8p;rw [u7 (by omega)];rfl
   have hv:Q3 a.n.a5 a.n.b8.a0=a.n.a5[k].b7.d9:=by
    unfold Q3;rw [hf];simp only [f5j hkl]
   simp only [cond_true];rw [show decide ((k:Int)>=0)=true by simp];simp only [cond_true];rw [b5f (okEntries.f h.ok.2.2.1) hl he,f5i,hc,f5i,t9 hkl,hv];cases K1 a.n.a5 k==0
   ·simp only [cond_false,f5i,l9.go,hj2];exact j1 ⟨a6C a.n,a.out,_⟩ h.freeN ho
   ·simp only [cond_true,f5i,l9.go,hj2];exact j1 ⟨a6C a.n,a.out,_⟩ h.freeN ho
theorem c6C{a:o9}(h:NI a.n)(hl:a.n.a5.length<40){e:m4}(he:z5 e=true)(ho:a.out.length<=900)(ht:a.told.length<=900):b2L a e=some (a2R a (Y2 a.n e)):=by
 have hk:=e8W (a:=⟨E1 a.n e,a.out,a.told⟩) (h.know he hl) ho ht;unfold b2L;rw [u7 (by omega)];unfold E1 at hk;cases hp:a.n.d8==3
 ·rw [hp] at hk;simp only [cond_false,f5i,l9.go] at hk ⊢;refine hk.trans ?_;unfold Y2 E1;rw [hp];rfl
 ·rw [hp] at hk;simp only [cond_true,f5i,l9.go] at hk ⊢;refine hk.trans ?_;unfold Y2 E1;rw [hp];rfl
theorem V0.two{m:l8}(h:V0 m)(hk:m.a8=2):(m.a6.length<=40/\∀v∈m.a6,VI v)/\m.g8+m.a6.length<=40:=by
 rcases h with q|q|q|q|q|q|q
 ·omega
 ·exact ⟨q.2.2.2.1,q.2.2.2.2⟩
 all_goals exact absurd q.1 (by omega)
theorem V0.five{m:l8}(h:V0 m)(hk:m.a8=5):m.g8<40/\z5 m.i4=true:=by
 rcases h with q|q|q|q|q|q|q
 ·omega
 ·omega
 ·omega
 ·exact ⟨q.2.2.1,q.2.2.2.1⟩
 all_goals exact absurd q.1 (by omega)
theorem e8R{a:o9}(h:NI a.n){m:l8}(hm:MI m)(ho:a.out.length<=900)(hto:m.To=a.n.Id):b7v a m=some (Y8 a (a1v a.n m)):=by
 obtain ⟨c1,c2⟩:=h.accOk;have hs:=hm.sl;unfold b7v a1v;rw [b54 c1 c2,f5i];cases hp:I3 a.n.Acc m.a7 with
 | none =>
  simp only [f5J,cond_true];rw [a8F (by omega)];simp only [f5i,Y8,L0,hto]
 | some x =>
  obtain ⟨rfl,_⟩:=a4m hp;simp only [f5n,cond_false,b5o,f5i];have hy:∀(n:j6) (vs:List m7),n.Id=a.n.Id->b6q m ⟨n,a.out,a.told⟩ vs=some ⟨n,a.out++[L0 m ⟨2,0,0,m.a7,m.g8,zE,vs⟩],a.told⟩:=by
   intro n vs hn;unfold b6q;rw [a8F (a:=⟨n,a.out,a.told⟩) (by exact Nat.le_trans ho (by decide))];simp only [f5i,L0,hto,hn]
  have hid:(N0 (⟨a.n.Id,⟨m.a7,a.n.Acc.a6⟩,a.n.a5,a.n.Seq,a.n.d8,a.n.a7,a.n.c9,a.n.i0,a.n.d6,a.n.a6,a.n.i9,a.n.i6,a.n.b8,a.n.f0⟩) m.a7).Id=a.n.Id:=a5Z _ _;obtain ⟨k,hk⟩:∃k:Nat,m.g8=(k:Int):=⟨m.g8.toNat,by omega⟩
  cases hd:decide (m.g8<(a.n.Acc.a6.length:Int))
  ·simp only [cond_false,f5i,l9.go];rw [hy _ _ hid,f5F (by simp at hd;omega)];rfl
  ·simp only [cond_true];rw [u7 (by simp at hd;omega)];simp only [f5i,l9.go];rw [hy _ _ hid,c3I];rfl
theorem e0m{a:o9}(h:NI a.n){m:l8}(hm:MI m)(ho:a.out.length<=900)(hto:m.To=a.n.Id):b45 a m=some (Y8 a (a1D a.n m)):=by
 obtain ⟨c1,c2⟩:=h.accOk;unfold b45 a1D;rw [c9u c1 c2 h.vl hm.ok.2.2.2.1 hm.ok.2.2.2.2.2.1,f5i];cases K5 a.n.Acc m.a7 m.g8 m.i4 with
 | none =>
  simp only [f5J,cond_true];rw [a8F (by omega)];simp only [f5i,Y8,L0,hto]
 | some x =>
  simp only [f5n,cond_false,b5o,f5i];rw [a8F (by simp only;omega)];simp only [f5i,Y8,L0,hto,a5Z]
theorem d23:∀(l:List Bool) (hl:s9 l) (m k:Nat) (c:Int),k+m=l.length->0<=c->c<=k->p8 (fun s:Int×Int=>a4Y l s.1 s.2) (c,(k:Int))=some (.brk (c+(((l.drop k).filter (· == true)).length:Int)))
 | l,hl,0,k,c,hk,h0,h1=>by
  have:k=l.length:=by omega
  subst this;rw [C6 (body:=fun s:Int×Int=>a4Y l s.1 s.2) (b:=c) (by unfold a4Y;rw [z9];rfl)];simp
 | l,hl,m+1,k,c,hk,h0,h1=>by
  have hlt:k<l.length:=by omega
  have hf:=hl;unfold s9 at hf;have hb:a4Y l c (k:Int)=some (.nxt (bif l[k] then c+1 else c,((k+1:Nat):Int))):=by
   unfold a4Y c1x;rw [x8 _ k hlt,cond_true,t9 hlt,f5i,E9 hl hlt,C2 (by omega) (by omega)];cases l[k]<;>rfl
  rw [E3 (body:=fun s:Int×Int=>a4Y l s.1 s.2) hb,d23 l hl m (k+1) _ (by omega) (by cases l[k]<;>simp<;>omega) (by cases l[k]<;>simp<;>omega),f5z hlt];cases l[k]<;>simp<;>omega
theorem d3x{l:List Bool}(h:s9 l):∃c,b12 l=some c/\decide (c>=2)=M8 l:=by
 unfold b12;rw [show p8 (fun s:Int×Int=>a4Y l s.1 s.2) (0,0)=_ from d23 l h l.length 0 0 (by omega) (by omega) (by omega)];refine ⟨_,rfl,?_⟩;unfold M8;rw [f6P];simp only [f6q,decide_eq_true_eq];omega
theorem d9F{a b:List m7}(ha:a.length<=40/\∀v∈a,VI v)(hb:b.length<=40/\∀v∈b,VI v):b69 a b=some (D5 a b):=by
 have oa:=a31 (by omega) ha.2;have ob:=a31 (by omega) hb.2;have hlen:=a8P a b;have hok:A3 96 T7 (D5 a b):=a31 (by omega) fun v hv=>(a9C hv).elim (ha.2 v) (hb.2 v)
 unfold b69;rw [b3m oa,f5i,a80.2 ha,b3m ob,f5i,a80.2 hb];simp only [f5n,cond_false];rw [a57 (body:=fun s:(List m7)×Int=>a66 a b s.1 s.2) (D5 a b) (by unfold s9;omega) (fun l=>l) (by
  intro k hk;have hget:=b1c a b k;rw [f5j hk] at hget;have hj1:∀l:List m7,c26 (k:Int) l=some (.nxt (l,m8 ((k:Int)+1))):=fun _=>rfl
  have htl:(((D5 a b).take k).length+1)*96<=140737488355328:=by rw [f5G];omega
  show a66 a b ((D5 a b).take k) (k:Int)=_
  have hstart:a66 a b ((D5 a b).take k) (k:Int)=b99 a b ((D5 a b).take k) (k:Int):=by
   unfold a66;by_cases h1:k<a.length
   ·rw [x8 _ k h1];rfl
   ·rw [show decide ((k:Int)<(a.length:Int))=false by simp;omega,x8 _ k (by omega)];rfl
  rw [hstart];unfold b99;by_cases h1:k<a.length
  ·rw [show decide ((k:Int)>=(a.length:Int))=false by simp;omega,t9 h1];rw [f5j h1] at hget;by_cases h2:k<b.length
   ·rw [show decide ((k:Int)>=(b.length:Int))=false by simp;omega,t9 h2];rw [f5j h2] at hget;injection hget with hget;simp only [cond_false,f5i,u7 htl];rw [hget,show decide (a[k].a7>=b[k].a7) = !decide (b[k].a7>a[k].a7) by rw [f6P];simp];cases decide (b[k].a7>a[k].a7)<;>rfl
   ·rw [show decide ((k:Int)>=(b.length:Int))=true by simp;omega];rw [f5O (by omega)] at hget;injection hget with hget;simp only [cond_false,cond_true,f5i,u7 htl];rw [hget];rfl
  ·have h2:k<b.length:=by omega
   rw [show decide ((k:Int)>=(a.length:Int))=true by simp;omega,t9 h2];rw [f5O (by omega),f5j h2] at hget;injection hget with hget;simp only [cond_true,f5i,u7 htl];rw [hget];rfl) (by
  show a66 a b (D5 a b) ((D5 a b).length:Int)=_
  unfold a66;rw [show decide (((D5 a b).length:Int)<(a.length:Int))=false by simp;omega,show decide (((D5 a b).length:Int)<(b.length:Int))=false by simp;omega];rfl)]
 simp only [f5i,l9.go,c3u,b8k hok]
theorem d8O{a:o9}(h:NI a.n){m:l8}(hm:MI m)(hk:m.a8=2)(ho:a.out.length<=900):b5x a m=some (Y8 a (a1z a.n m)):=by
 have hkd:=hm.kd.two hk;have hs:=hm.sl;have hf:=hm.fr;have hright:=c2b h hm hk;unfold b5x;unfold a1z at hright ⊢;by_cases p1:a.n.d8=1
 ·rw [show (a.n.d8 != 1)=false by simp [p1],f5R] at hright;rw [show (a.n.d8 != 1)=false by simp [p1],f5R];cases hb:m.a7 != a.n.a7
  ·rw [hb] at hright;simp only [cond_false] at hright ⊢;have hl:a.n.c9.length=3/\Own a.n:=by
    rcases h.ld with q|q|q|q
    ·omega
    ·exact ⟨q.2.2.1,q.2.1⟩
    all_goals exact absurd q.1 (by omega)
   obtain ⟨f,hff⟩:∃f:Nat,m.c9=(f:Int):=⟨m.c9.toNat,by omega⟩
   have hvo:(f5k m.g8.toNat v0++m.a6).length<=40/\∀v∈f5k m.g8.toNat v0++m.a6,VI v:=⟨by simp;omega,fun v hv=>(List.mem_append.1 hv).elim (fun q=>by rw [(f5Z.1 q).2];exact .inl rfl) (hkd.1.2 v)⟩
   obtain ⟨c,c1,c2⟩:=d3x (l:=a.n.c9.set (f:Int).toNat true) (b7Q (by simp;omega));rw [hff] at hright;rw [hff,t9 (show f<a.n.c9.length by omega),f5i,u7 (by omega),u7 (by simp;omega),show (⟨0,⟨false,⟨0,0⟩,⟨[],[],0,0⟩⟩⟩:m7)=v0 from rfl,d9F ⟨hl.2.bl,hl.2.bs⟩ hvo,f5i,c1,f5i,c2];cases htw:M8 (a.n.c9.set (f:Int).toNat true)
   ·simp only [cond_false,Y8];rw [f5S]
   ·rw [htw] at hright;simp only [cond_true] at hright ⊢;have hni:NI ⟨a.n.Id,a.n.Acc,a.n.a5,a.n.Seq,2,a.n.a7,[],D5 a.n.i0 (f5k m.g8.toNat v0++m.a6),a.n.d6,a.n.a6,a.n.i9,a.n.i6,a.n.b8,a.n.f0⟩:=by
     rcases h.ld with q|q|q|q
     ·omega
     ·exact ⟨h.id,h.pr,h.vl,h.vs,h.kl,h.ks,h.sq,h.ql,h.qs,.inr (.inr (.inl ⟨rfl,⟨q.2.1.b1,q.2.1.b2,q.2.1.mod,q.2.1.pr,by have:=a8P a.n.i0 (f5k m.g8.toNat v0++m.a6);have:=hl.2.bl;have:=hvo.1;simp only at *;omega,fun v hv=>(a9C hv).elim (hl.2.bs v) (hvo.2 v)⟩,rfl,q.2.2.2.2.1,q.2.2.2.2.2⟩)),h.wt⟩
     all_goals exact absurd q.1 (by omega)
    rw [b3z (a:=⟨⟨a.n.Id,a.n.Acc,a.n.a5,a.n.Seq,2,a.n.a7,[],D5 a.n.i0 (f5k m.g8.toNat v0++m.a6),a.n.d6,a.n.a6,a.n.i9,a.n.i6,a.n.b8,a.n.f0⟩,a.out,a.told⟩) hni ho];rfl
  ·simp only [cond_true,cond_false];rw [a9l]
 ·rw [show (a.n.d8 != 1)=true by simpa using p1];simp only [cond_true,f7k];rw [a9l]
theorem e0A{a:o9}(h:NI a.n){m:l8}(hm:MI m)(ho:a.out.length<=800)(ht:a.told.length<=800):b47 a m=some (a2R a (a2y a.n m)):=by
 have hf:=hm.fr;unfold b47 a2y;by_cases p3:a.n.d8=3
 ·rw [show (a.n.d8 != 3)=false by simp [p3],f5R];cases hb:m.a7 != a.n.a7
  ·simp only [cond_false,f5R];cases hs:m.g8 != (a.n.a5.length:Int)
   ·simp only [cond_false];have hsl:m.g8=(a.n.a5.length:Int):=by simpa using hs
    obtain ⟨q1,q2,q3,q4,q5,q6,q7⟩:a.n.d8=3/\Own a.n/\a.n.c9=[]/\z5 a.n.d6=true/\a.n.a6.length=3/\a.n.a6[a.n.Id.toNat]?=some true/\a.n.a5.length<40:=by
     rcases h.ld with q|q|q|q
     ·omega
     ·omega
     ·omega
     ·exact q
    obtain ⟨f,hff⟩:∃f:Nat,m.c9=(f:Int):=⟨m.c9.toNat,by omega⟩
    obtain ⟨c,c1,c2⟩:=d3x (l:=a.n.a6.set (f:Int).toNat true) (b7Q (by simp;omega));rw [hff,t9 (show f<a.n.a6.length by omega),f5i,c1,f5i,c2];cases htw:M8 (a.n.a6.set (f:Int).toNat true)
    ·simp only [cond_false,a2R,f5S]
    ·simp only [cond_true];have hid:=h.id;have hni:NI ⟨a.n.Id,a.n.Acc,a.n.a5,a.n.Seq,a.n.d8,a.n.a7,a.n.c9,a.n.i0,a.n.d6,a.n.a6.set (f:Int).toNat true,a.n.i9,a.n.i6,a.n.b8,a.n.f0⟩ :=
      ⟨h.id,h.pr,h.vl,h.vs,h.kl,h.ks,h.sq,h.ql,h.qs,.inr (.inr (.inr ⟨q1,q2,q3,q4,by simpa using q5,by
       show (a.n.a6.set f true)[a.n.Id.toNat]?=some true
       rw [f6H];split
       ·rw [if_pos (by omega)]
       ·exact q6,q7⟩)),h.wt⟩
     have l1:=a0F a.n.Id ⟨5,0,0,0,m.g8,a.n.d6,[]⟩;rw [a53 (by exact hid) (by simp only;omega),f5i];simp only;rw [c6C (a:=⟨⟨a.n.Id,a.n.Acc,a.n.a5,a.n.Seq,a.n.d8,a.n.a7,a.n.c9,a.n.i0,a.n.d6,a.n.a6.set (f:Int).toNat true,a.n.i9,a.n.i6,a.n.b8,a.n.f0⟩,a.out++I4 a.n.Id ⟨5,0,0,0,m.g8,a.n.d6,[]⟩,a.told⟩) hni q7 q4 (by simp only [f5u];omega) (by simp only;omega),f5i,hsl];simp only [a2R,f5B]
   ·simp only [cond_true];rw [b5T]
  ·simp only [cond_true,cond_false,f7k];rw [b5T]
 ·rw [show (a.n.d8 != 3)=true by simpa using p3];simp only [cond_true,f7k];rw [b5T]
theorem f3l{a:o9}(h:NI a.n){m:l8}(hm:MI m)(hk:m.a8=5)(ho:a.out.length<=800)(ht:a.told.length<=800)(hto:m.To=a.n.Id):b81 a m=some (a2R a (a2A a.n m)):=by
 have hkd:=hm.kd.five hk;unfold b81 a2A;cases h1:decide (m.g8<(a.n.a5.length:Int))
 ·cases h2:decide (m.g8>(a.n.a5.length:Int))
  ·simp only [cond_false];have hl:a.n.a5.length<40:=by simp at h1 h2;omega
   rw [c6C h hl hkd.2 (by omega) (by omega)];rfl
  ·simp only [cond_false,cond_true];rw [a8F (by omega)];simp only [f5i,a2R,L0,hto,f5S]
 ·simp only [cond_true];rw [b5T]
theorem e4q{a:o9}(h:NI a.n){m:l8}(hm:MI m)(hk:m.a8=7)(ho:a.out.length<=800):b7T a m=some (Y8 a (a1w a.n m)):=by
 have hql:=h.ql;obtain ⟨e1,e2⟩:z5 m.i4=true/\m.i4.i7=false:=by
  rcases hm.kd with q|q|q|q|q|q|q
  ·omega
  ·omega
  ·omega
  ·omega
  ·omega
  ·exact ⟨q.2.2.2.1,q.2.2.2.2.1⟩
  ·omega
 unfold b7T a1w;rw [show decide ((a.n.f0.length:Int)>=4)=decide (4<=a.n.f0.length) by simp;omega,e8o (h.ok.2.2.1.fits (by decide))];cases a.n.d8==0
 ·simp only [cond_false,f5R];cases h4:decide (4<=a.n.f0.length)
  ·simp only [cond_false,f5R,f5i];cases M9 a.n.a5 m.i4.a0
   ·simp only [cond_false];have hni:NI {a.n with f0:=a.n.f0++[m.i4]}:=h.queue (by simp at h4 ⊢;omega) (by
     intro e he;rcases List.mem_append.1 he with q|q
     ·exact h.qs e q
     ·rw [f5p.1 q];exact ⟨e1,e2⟩)
    rw [u7 (by omega),b3z (a:=⟨{a.n with f0:=a.n.f0++[m.i4]},a.out,a.told⟩) hni (by simp only;omega)];rfl
   ·simp only [cond_true];rw [a9l]
  ·simp only [cond_true,f7k];rw [a9l]
 ·simp only [cond_true,f7k];rw [a9l]
theorem b9P{n:j6}(h:NI n):a7u n=some ⟨n,[],[]⟩:=by
 unfold a7u;rw [b9N h.ok];rfl
theorem e6f{l:List l8}(hl:l.length<=1000)(h:∀m∈l,MI m):A3 152 a0j l:=a0k (by omega) fun m hm=>(h m hm).ok
theorem c5Y{a:o9}(h:NI a.n)(ho:a.out.length<=1000)(hm:∀m∈a.out,MI m)(ht:a.told.length<=1000):a1y a=some (a.n,a.out,a.told,a):=by
 unfold a1y;rw [b9N h.ok,f5i,c8E (e6f ho hm),f5i,d15 (by omega)];rfl
theorem c1E{n:j6}{x:j6×List l8}(h:S6 n x)(hl:x.2.length<=1000):a1y ⟨x.1,x.2,[]⟩=some (x.1,x.2,[],⟨x.1,x.2,[]⟩):=c5Y h.ni hl h.ms (by simp)
theorem c1l(l:List m9)(prog:List n8):∀(f k:Nat) (regs:List Int) (rs:List r9) (ps:List p6),(V9 l prog f k regs rs ps).Code≠3
 | 0,_,_,_,_=>by simp [V9]
 | f+1,k,regs,rs,ps=>by
  unfold V9;cases prog[k]? with
  | none=>simp
  | some i =>
   simp only;cases i.a8==6
   ·cases i.a8==7
    ·cases (E8 l i regs rs ps).1.all I1
     ·simp
     ·exact c1l l prog f _ _ _ _
    ·simp
   ·exact c1l l prog f _ _ _ _
theorem d9Z{l:List m9}(hb:C4 l=true)(p:List n8):((B8 l p).Code==3) = !E2 p:=by
 unfold B8;rw [hb,f5v];cases E2 p
 ·rfl
 ·simpa using c1l l p _ _ _ _ _
theorem f4G{n:j6}(h:NI n):b6d n=some (o8 n.a5).1:=by
 unfold b6d;rw [a8d h.ok,f5i,a1n.2 h];simp only [f5n,cond_false];rw [d2y (okEntries.f h.ok.2.2.1),h.list];rfl
theorem c7h{prog:List n8}(h:A3 32 okT prog):s9 prog:=h.fits (by decide)
theorem d8u{n:j6}(h:NI n){prog:List n8}(hp:A3 32 okT prog):b59 n prog=some ((N4 n prog).1,(N4 n prog).2,[]):=by
 have hf:=c7h hp;have hs:=h.sq;have hr:=b2o h hf;have hlen:=c5B n prog;have e0:=c5Y (a:=⟨n,[],[]⟩) h (by simp) (by simp) (by simp);rw [a2o] at hr hlen;unfold b59;rw [a8d h.ok,f5i,a1n.2 h,b9P h,a2o,b8y hf,f4G h];simp only [f5n,cond_false,f5i];have hc:((B8 (a2g n) prog).Code==3) = !E2 prog:=d9Z (b5c h) prog;rw [show (o8 n.a5).1.g7=a2g n from rfl,d0l (a1P (b5c h)) hf];unfold M5 at hr hlen ⊢;rw [hc] at hr hlen ⊢;cases hb:n.i9
 ·cases hq:n.Seq==1000
  ·cases hpo:E2 prog
   ·simp only [f5J,cond_true,cond_false,e0,f5i];rfl
   ·rw [hb,hq,hpo] at hr hlen;have hca:M5 n prog=true:=by unfold M5;rw [hc,hb,hq,hpo];rfl
    have hn:=h.asked hf hca;simp only [f5n,f5J,Bool.or_false,cond_true,cond_false,f5i] at hr hlen ⊢;rw [C2 (by omega) (by omega)];have ha:(⟨⟨n.Id,n.Acc,n.a5,n.Seq+1,n.d8,n.a7,n.c9,n.i0,n.d6,n.a6,true,prog,⟨false,⟨n.Id,n.Seq+1⟩,B8 (a2g n) prog⟩,n.f0⟩,[],[]⟩:o9)=⟨P5 n prog,[],[]⟩:=rfl;have hj:∀x:j6×List l8,S6 n x->x.2.length<=3->b9L ⟨x.1,x.2,[]⟩=some (x.1,x.2,[]):=by
     intro x hx hl;unfold b9L;rw [c1E hx (by omega)];rfl
    rw [ha];cases h2:n.d8==2
    ·rw [h2] at hr hlen;cases h0:n.d8==0
     ·rw [h0] at hr hlen;simp only [cond_false,f5i,l9.go] at hr hlen ⊢;exact hj _ hr hlen
     ·rw [h0] at hr hlen;simp only [cond_false,cond_true] at hr hlen ⊢;rw [a53 (a:=⟨P5 n prog,[],[]⟩) (by exact h.id) (by simp)];simp only [f5i,l9.go,f6b];exact hj (P5 n prog,_) hr hlen
    ·rw [h2] at hr hlen;simp only [cond_true] at hr hlen ⊢;rw [b3z (a:=⟨P5 n prog,[],[]⟩) hn (by simp)];simp only [f5i,l9.go,Y8,f6b];exact hj _ hr hlen
  ·simp only [cond_true,cond_false,e0,f5i];rfl
 ·simp only [cond_true,e0,f5i];rfl
theorem d80{b who:Int}(hb:0<=b/\b<=3000)(hw:0<=who/\who<=2):c0s b who=some (M0 b who):=by
 have e:∀i:Int,1<=i->i<=4->a2r who (b+i)=some (bif decide (b+i<=3000) then (bif f5K (b+i) 3==who then .ret (b+i) else .nxt (b+(i+1))) else .brk ()):=by
  intro i h1 h3;unfold a2r;rw [show decide (b+i>0)=true by simp;omega,d6e,C2 (by omega) (by omega),Int.add_assoc];cases hd:decide (b+i<=3000)
  ·rfl
  ·rw [show Z2 (b+i)=f5K (b+i) 3 by
    unfold Z2;rw [K4.2 ⟨by omega,by simpa using hd⟩];rfl]
   simp only [cond_true,f5i];cases f5K (b+i) 3==who<;>rfl
 have hmod:∀i:Int,1<=i->f5K (b+i) 3=(b+i) % 3:=fun i hi=>Int.tmod_eq_emod_of_nonneg (by omega)
 have e1:=e 1 (by omega) (by omega);have e2:=e 2 (by omega) (by omega);have e3:=e 3 (by omega) (by omega);have m1:=hmod 1 (by omega);have m2:=hmod 2 (by omega);have m3:=hmod 3 (by omega);unfold c0s M0;rw [show decide (b<0)=false by simp;omega,M7,show p9 who 0 2=true from K4.2 hw,C2 (by omega) (by omega)];simp only [cond_false,f5i,f5n];cases q1:decide (b+1<=3000)
 ·rw [q1] at e1;rw [C6 (body:=fun s:Int=>a2r who s) e1,show decide (b+2<=3000)=false by simp at q1 ⊢;omega,show decide (b+3<=3000)=false by simp at q1 ⊢;omega];rfl
 rw [q1] at e1;cases t1:f5K (b+1) 3==who;case true=>rw [t1] at e1;rw [V8 (body:=fun s:Int=>a2r who s) e1];rfl
 rw [t1] at e1;rw [E3 (body:=fun s:Int=>a2r who s) e1];cases q2:decide (b+2<=3000)
 ·rw [show (1:Int)+1=2 from rfl];rw [q2] at e2;rw [C6 (body:=fun s:Int=>a2r who s) e2,show decide (b+3<=3000)=false by simp at q2 ⊢;omega];rfl
 rw [q2] at e2;rw [show (1:Int)+1=2 from rfl];cases t2:f5K (b+2) 3==who;case true=>rw [t2] at e2;rw [V8 (body:=fun s:Int=>a2r who s) e2];rfl
 rw [t2] at e2;rw [E3 (body:=fun s:Int=>a2r who s) e2,show (2:Int)+1=3 from rfl];cases q3:decide (b+3<=3000)
 ·rw [q3] at e3;rw [C6 (body:=fun s:Int=>a2r who s) e3];rfl
 rw [q3] at e3;have t3:(f5K (b+3) 3==who)=true:=by
  simp only [beq_eq_false_iff_ne,beq_iff_eq] at t1 t2 ⊢;omega
 rw [t3] at e3;rw [V8 (body:=fun s:Int=>a2r who s) e3,t3];rfl
theorem f3u{n:j6}(h:NI n):b6B n=some (Y3 n):=by
 have hr:=b4e h;have hl:=b7f n;have hj:∀x:j6×List l8,S6 n x->x.2.length<=3->b2j ⟨x.1,x.2,[]⟩=some x:=by
  intro x hx hl;unfold b2j;rw [c1E hx (by omega)];rfl
 unfold b6B;unfold Y3 at hr hl ⊢;rw [a8d h.ok,f5i,a1n.2 h,b9P h,d80 h.pr h.id];simp only [f5n,cond_false,f5i];cases hd:decide (M0 n.Acc.g9 n.Id<0)
 ·rw [hd] at hr hl;simp only [decide_eq_false_iff_not] at hd;obtain ⟨c1,c2⟩:=h.accOk;rcases b61 h.pr h.id with q|⟨q1,q2,q3,q4⟩
  ·omega
  ·have hpr:=h.pr;rw [show decide (M0 n.Acc.g9 n.Id>=0)=true by simp;omega];simp only [cond_true,cond_false,c09,f5i] at hr hl ⊢;rw [b54 (a:=(a3v n).Acc) c1 c2,show I3 (a3v n).Acc (M0 n.Acc.g9 n.Id)=some ⟨M0 n.Acc.g9 n.Id,n.Acc.a6⟩ from b5p (a:=n.Acc) (by omega) q3 (by omega),f5i,d3o (by exact h.id),f5i];simp only;have ha:=a53 (a:=⟨⟨n.Id,⟨M0 n.Acc.g9 n.Id,n.Acc.a6⟩,n.a5,n.Seq,1,M0 n.Acc.g9 n.Id,a03 n.Id,n.Acc.a6,zE,[],n.i9,n.i6,n.b8,n.f0⟩,[],[]⟩) h.id (by simp) ⟨1,0,0,M0 n.Acc.g9 n.Id,(n.a5.length:Int),zE,[]⟩;refine (congrArg (fun x:Option o9=>((x.bind fun all=>some (l9.brk all)).bind fun x:l9 (j6×List l8) o9=>x.go some fun j=>b2j j)) ha).trans ?_;simp only [f5i,l9.go,f6b];have e:=hj _ hr hl;exact e
 ·rw [hd] at hr hl;rw [show decide (M0 n.Acc.g9 n.Id>=0)=false by simp at hd ⊢;omega];simp only [cond_false,cond_true,f5i,l9.go] at hr hl ⊢;exact hj (n,[]) hr hl
theorem e1B{n:j6}(h:NI n):b9z n=some ((V4 n).1,(V4 n).2,[]):=by
 have hr:=b26 h;have hl:=c4L n;have hj:∀x:j6×List l8,S6 n x->x.2.length<=6->b8U ⟨x.1,x.2,[]⟩=some (x.1,x.2,[]):=by
  intro x hx hl;unfold b8U;rw [c1E hx (by omega)];rfl
 have l0:=a0F n.Id ⟨8,0,0,0,(n.a5.length:Int),zE,[]⟩;unfold b9z;unfold V4 at hr hl ⊢;rw [a8d h.ok,f5i,a1n.2 h,b9P h];simp only [f5n,cond_false,f5i];rw [a53 (a:=⟨n,[],[]⟩) (by exact h.id) (by simp)];simp only [f5i,f6b];have l1:(I4 n.Id ⟨8,0,0,0,(n.a5.length:Int),⟨false,⟨0,0⟩,⟨[],[],0,0⟩⟩,[]⟩).length<=3:=l0;cases h1:n.d8==1
 ·cases h2:n.d8==2
  ·cases h3:n.d8==3
   ·cases hbz:n.i9
    ·rw [h1,h2,h3,hbz] at hr hl;simp only [cond_false,f5i,l9.go] at hr hl ⊢;have e:=hj _ hr hl;exact e
    ·rw [h1,h2,h3,hbz] at hr hl;simp only [cond_false,cond_true] at hr hl ⊢;rw [a53 (by exact h.id) (by simp only;omega)];simp only [f5i,l9.go];have e:=hj _ hr hl;exact e
   ·rw [h1,h2,h3] at hr hl;simp only [cond_false,cond_true] at hr hl ⊢;rw [a53 (by exact h.id) (by simp only;omega)];simp only [f5i,l9.go];have e:=hj _ hr hl;exact e
  ·rw [h1,h2] at hr hl;simp only [cond_false,cond_true] at hr hl ⊢;rw [b3z (by exact h) (by simp only;omega)];simp only [f5i,l9.go];have e:=hj _ hr hl;exact e
 ·rw [h1] at hr hl;simp only [cond_true] at hr hl ⊢;rw [a53 (by exact h.id) (by simp only;omega)];simp only [f5i,l9.go];have e:=hj _ hr hl;exact e
theorem e43{n:j6}(h:NI n):b8K n=some (a1p n):=by
 unfold b8K;rw [a8d h.ok,f5i,a1n.2 h];simp only [f5n,cond_false];rw [show (⟨n.Id,n.Acc,n.a5,n.Seq,0,0,[],[],⟨false,⟨0,0⟩,⟨[],[],0,0⟩⟩,[],false,[],⟨false,⟨0,0⟩,⟨[],[],0,0⟩⟩,[]⟩:j6)=a1p n from rfl,b9N h.fall.ok];rfl
theorem d1P{n:j6}(h:NI n){m:l8}(hto:m.To=n.Id):∀(d k:Nat) (o:List l8),n.a5.length-k=d->o.length<=k->p8 (fun s:Int×o9=>a7o m s.1 s.2) ((k:Int),⟨n,o,[]⟩)=some (.brk ⟨n,o++((f5q d).map fun j=>a1o n m (k+j)).flatten,[]⟩)
 | 0,k,o,hd,ho=>by
  have hkl:=h.kl;refine (C6 (body:=fun s:Int×o9=>a7o m s.1 s.2) (b:=⟨n,o,[]⟩) ?_).trans (by simp);unfold a7o;rw [show decide ((k:Int)<(n.a5.length:Int))=false by simp;omega];rfl
 | d+1,k,o,hd,ho=>by
  have hkl:=h.kl;have hlt:k<n.a5.length:=by omega
  have hb:a7o m (k:Int) ⟨n,o,[]⟩=some (.nxt (((k+1:Nat):Int),⟨n,o++a1o n m k,[]⟩)):=by
   unfold a7o;rw [x8 _ k hlt,cond_true];simp only;rw [t9 hlt,f5i,a8F (by simp only;omega),b7x m hlt,E9 (h.ok.2.2.1.fits (by decide)) hlt];simp only [f5i,L0,hto]
  rw [E3 (body:=fun s:Int×o9=>a7o m s.1 s.2) (s:=((k:Int),⟨n,o,[]⟩)) hb,d1P h hto d (k+1) _ (by omega) (by rw [b7x m hlt];simp;omega)];rw [List.range_succ_eq_map,f5Q,f5L,f5B,f7h];simp only [f6M,Function.comp_def,Nat.succ_eq_add_one,Nat.add_assoc,Nat.add_comm 1]
theorem f2L{n:j6}(h:NI n){m:l8}(hm:MI m)(hto:m.To=n.Id):b7M n m=some (W5 n m):=by
 have hr:=b6Z h hm;have hl:=b7r h m;have hj:∀x:j6×List l8×List n5,a6s n x->x.2.1.length<=60->x.2.2.length<=1->b7R ⟨x.1,x.2.1,x.2.2⟩=some x:=by
  intro x hx h1 h2;unfold b7R;rw [c5Y hx.ni (by simp only;omega) hx.ms (by simp only;omega)];rfl
 have hz:NI (⟨n,[],[]⟩:o9).n:=h;unfold b7M;unfold W5 at hr hl ⊢;rw [a8d h.ok,f5i,a1n.2 h,b9P h,d29 hm.ok,d1z.2 hm,show (m.To != n.Id)=false by simpa using hto];simp only [f5n,cond_false,f5i];by_cases k1:m.a8=1
 ·rw [show (m.a8==1)=true by simpa using k1] at hr hl ⊢;simp only [cond_true] at hr hl ⊢;rw [e8R (a:=⟨n,[],[]⟩) h hm (by simp) hto];have e:=hj _ hr hl.1 hl.2;exact e
 rw [show (m.a8==1)=false by simpa using k1] at hr hl ⊢;by_cases k2:m.a8=2
 ·rw [show (m.a8==2)=true by simpa using k2] at hr hl ⊢;simp only [cond_true,cond_false] at hr hl ⊢;rw [d8O (a:=⟨n,[],[]⟩) h hm k2 (by simp)];have e:=hj _ hr hl.1 hl.2;exact e
 rw [show (m.a8==2)=false by simpa using k2] at hr hl ⊢;by_cases k3:m.a8=3
 ·rw [show (m.a8==3)=true by simpa using k3] at hr hl ⊢;simp only [cond_true,cond_false] at hr hl ⊢;rw [e0m (a:=⟨n,[],[]⟩) h hm (by simp) hto];have e:=hj _ hr hl.1 hl.2;exact e
 rw [show (m.a8==3)=false by simpa using k3] at hr hl ⊢;by_cases k4:m.a8=4
 ·rw [show (m.a8==4)=true by simpa using k4] at hr hl ⊢;simp only [cond_true,cond_false] at hr hl ⊢;rw [e0A (a:=⟨n,[],[]⟩) h hm (by simp) (by simp)];have e:=hj _ hr hl.1 hl.2;exact e
 rw [show (m.a8==4)=false by simpa using k4] at hr hl ⊢;by_cases k5:m.a8=5
 ·rw [show (m.a8==5)=true by simpa using k5] at hr hl ⊢;simp only [cond_true,cond_false] at hr hl ⊢;rw [f3l (a:=⟨n,[],[]⟩) h hm k5 (by simp) (by simp) hto];have e:=hj _ hr hl.1 hl.2;exact e
 rw [show (m.a8==5)=false by simpa using k5] at hr hl ⊢;by_cases k6:m.a8=6
 ·rw [show (m.a8==6)=true by simpa using k6] at hr hl ⊢;obtain ⟨c1,c2⟩:=h.accOk;simp only [cond_true,cond_false] at hr hl ⊢;rw [b54 c1 c2];cases hp:I3 n.Acc m.a7
  ·rw [hp] at hr;simp only [f5i,b5o,l9.go];have e:=hj _ hr hl.1 hl.2;exact e
  ·rw [hp] at hr;simp only [f5i,b5o,l9.go];have e:=hj _ hr hl.1 hl.2;exact e
 rw [show (m.a8==6)=false by simpa using k6] at hr hl ⊢;by_cases k7:m.a8=7
 ·rw [show (m.a8==7)=true by simpa using k7] at hr hl ⊢;simp only [cond_true,cond_false] at hr hl ⊢;rw [e4q (a:=⟨n,[],[]⟩) h hm k7 (by simp)];have e:=hj _ hr hl.1 hl.2;exact e
 rw [show (m.a8==7)=false by simpa using k7] at hr hl ⊢;cases k8:m.a8==8
 ·rw [k8] at hr hl;simp only [cond_false,f5i,l9.go] at hr hl ⊢;have e:=hj _ hr hl.1 hl.2;exact e
 ·rw [k8] at hr hl;have hs:=hm.sl;obtain ⟨k,hk⟩:∃k:Nat,m.g8=(k:Int):=⟨m.g8.toNat,by omega⟩
  simp only [cond_false,cond_true] at hr hl ⊢;unfold a4a at hr hl ⊢;rw [hk] at hr hl ⊢;rw [f5I] at hr hl ⊢;rw [d1P h hto (n.a5.length-k) k [] rfl (by simp)];have e:=hj _ hr hl.1 hl.2;exact e
theorem c4a{l:List l8}(hl:s9 l):∀(d k:Nat) (net:List l8),net.length<=40->l.length-k=d->p8 (fun s:(List l8)×Int=>a4p l s.1 s.2) (net,(k:Int))=some (.brk (net++(l.drop k).take (40-net.length)))
 | 0,k,net,hn,hd=>by
  refine (C6 (body:=fun s:(List l8)×Int=>a4p l s.1 s.2) (b:=net) ?_).trans (by rw [f5F (by omega)];simp);unfold a4p;rw [show decide ((k:Int)<(l.length:Int))=false by simp;omega];rfl
 | d+1,k,net,hn,hd=>by
  have hlt:k<l.length:=by omega
  rw [f5z hlt];by_cases h40:net.length<40
  ·rw [E3 (body:=fun s:(List l8)×Int=>a4p l s.1 s.2) (t:=(net++[l[k]],((k+1:Nat):Int))) (by
    unfold a4p c0e;rw [x8 _ k hlt,cond_true,t9 hlt,f5i,show decide ((net.length:Int)<40)=true by simp;omega,cond_true,u7 (by simp only;omega),E9 hl hlt];rfl),c4a hl d (k+1) _ (by simp;omega) (by omega),f5u,f6o,show 40-net.length=(40-(net.length+1))+1 by omega,f7b,f5B]
   rfl
  ·rw [E3 (body:=fun s:(List l8)×Int=>a4p l s.1 s.2) (t:=(net,((k+1:Nat):Int))) (by
    unfold a4p c0e;rw [x8 _ k hlt,cond_true,t9 hlt,f5i,show decide ((net.length:Int)<40)=false by simp;omega,cond_false,E9 hl hlt];rfl),c4a hl d (k+1) _ hn (by omega),show 40-net.length=0 by omega,f5T,f5T]
theorem c1D{l:List n5}(hl:s9 l):∀(d k:Nat) (net:List n5),net.length<=60->l.length-k=d->p8 (fun s:(List n5)×Int=>a33 l s.1 s.2) (net,(k:Int))=some (.brk (net++(l.drop k).take (60-net.length)))
 | 0,k,net,hn,hd=>by
  refine (C6 (body:=fun s:(List n5)×Int=>a33 l s.1 s.2) (b:=net) ?_).trans (by rw [f5F (by omega)];simp);unfold a33;rw [show decide ((k:Int)<(l.length:Int))=false by simp;omega];rfl
 | d+1,k,net,hn,hd=>by
  have hlt:k<l.length:=by omega
  rw [f5z hlt];by_cases h40:net.length<60
  ·rw [E3 (body:=fun s:(List n5)×Int=>a33 l s.1 s.2) (t:=(net++[l[k]],((k+1:Nat):Int))) (by
    unfold a33 c0k;rw [x8 _ k hlt,cond_true,t9 hlt,f5i,show decide ((net.length:Int)<60)=true by simp;omega,cond_true,u7 (by simp only;omega),E9 hl hlt];rfl),c1D hl d (k+1) _ (by simp;omega) (by omega),f5u,f6o,show 60-net.length=(60-(net.length+1))+1 by omega,f7b,f5B]
   rfl
  ·rw [E3 (body:=fun s:(List n5)×Int=>a33 l s.1 s.2) (t:=(net,((k+1:Nat):Int))) (by
    unfold a33 c0k;rw [x8 _ k hlt,cond_true,t9 hlt,f5i,show decide ((net.length:Int)<60)=false by simp;omega,cond_false,E9 hl hlt];rfl),c1D hl d (k+1) _ hn (by omega),show 60-net.length=0 by omega,f5T,f5T]
theorem b05{w:m5}(hn:w.a9.length=3)(f1J:w.c8.length<=40)(htl:w.Told.length<=60){n:j6}(hid:0<=n.Id/\n.Id<=2){l:List l8}(hl:l.length<=100){t:List n5}(ht:t.length<=100):a4C w n l t=some (a8g (a0M (O6 w n.Id n) l) t):=by
 obtain ⟨k,hk⟩:∃k:Nat,n.Id=(k:Int):=⟨n.Id.toNat,by omega⟩
 unfold a4C;rw [hk,t9 (show k<w.a9.length by omega),f5i];rw [show p8 (fun s:(List l8)×Int=>a4p l s.1 s.2) (w.c8,0)=_ from c4a (by unfold s9;omega) l.length 0 w.c8 f1J (by omega)];simp only [f5i,l9.go,c1k];rw [show p8 (fun s:(List n5)×Int=>a33 t s.1 s.2) (w.Told,0)=_ from c1D (by unfold s9;omega) t.length 0 w.Told htl (by omega)];simp only [f5i,l9.go,c5q,f6q,hk];rfl
theorem f3I{l:List l8}{k:Nat}(hk:k<l.length)(hl:l.length<=100):b4l l (k:Int)=some (l.take k++l.drop (k+1)):=by
 unfold b4l;rw [C2 (by omega) (by omega)];have e1:((k:Int)+1).toNat=k+1:=by omega
 have l1:((l.drop 0).take ((k:Int).toNat-0)).length<=100:=by simp;omega
 have l2:((l.drop (k+1)).take (l.length-(k+1))).length<=100:=by simp;omega
 rw [u7 (by omega),u7 (by simp only [f6O];omega),u7 (by omega),e1,u7 (by simp only [f5u,f6O];omega)];rw [c3I];simp
theorem e6x(n:j6)(p:List n8):(M5 n p=true/\(N4 n p).1.Seq=n.Seq+1/\(N4 n p).1.b8.a0=⟨n.Id,n.Seq+1⟩)\/(M5 n p=false/\N4 n p=(n,[])):=by
 cases hc:M5 n p
 ·right
  rw [a2o,hc];exact ⟨rfl,rfl⟩
 ·left
  refine ⟨rfl,?_,?_⟩
  ·rw [a2o,hc];simp only [cond_true];cases n.d8==2
   ·rfl
   ·exact (b5R (P5 n p)).seq
  ·rw [c0E hc];rfl
def onN(w:m5)(e:s5):m5 :=
 bif e.a8==1 then a6f w e.A e.i6 else
 bif e.a8==5 then a0M (O6 w e.A (Y3 (I9 w e.A)).1) (Y3 (I9 w e.A)).2 else
 bif e.a8==6 then a0M (O6 w e.A (V4 (I9 w e.A)).1) (V4 (I9 w e.A)).2 else
 bif e.a8==7 then O6 w e.A (a1p (I9 w e.A)) else w
theorem c1M(w:m5)(e:s5):D7 w e=bif e.a8==2||(e.a8==3||e.a8==4) then a2E w e else bif p9 e.A 0 2 then onN w e else w:=by
 unfold D7 onN;cases e.a8==2||(e.a8==3||e.a8==4)
 ·cases p9 e.A 0 2<;>rfl
 ·rfl
theorem e6s{w:m5}(h:WI w){e:s5}(he:L1 e)(hi:p9 e.A 0 2=true):a5F w e=some (onN w e):=by
 rw [K4] at hi;obtain ⟨i,hA⟩:∃i:Nat,e.A=(i:Int):=⟨e.A.toNat,by omega⟩
 obtain ⟨n,hg,hn,hid,hni,hlt⟩:=a7t h (i:=i) (by omega);have hal:=h.al;unfold a5F onN;rw [hA,a8S,hg,f5i,hn];cases e.a8==1
 ·cases e.a8==5
  ·cases e.a8==6
   ·cases e.a8==7
    ·rfl
    ·simp only [cond_true,cond_false];rw [e43 hni,f5i,b05 h.nl h.ml h.tl (by exact hni.id) (by simp) (by simp),f5i,a2Z,c0T];simp only [f5i,l9.go,b6C];rw [show (a1p n).Id=(i:Int) from hid]
   ·simp only [cond_true,cond_false];have hr:=b26 hni;have hl:=c4L n;rw [e1B hni,f5i];simp only;rw [b05 h.nl h.ml h.tl (by rw [hr.id];exact hni.id) (by omega) (by simp),f5i,a2Z,hr.id,hid];rfl
  ·simp only [cond_true,cond_false];have hr:=b4e hni;have hl:=b7f n;rw [f3u hni,f5i,b05 h.nl h.ml h.tl (by rw [hr.id];exact hni.id) (by omega) (by simp),f5i,a2Z,hr.id,hid];rfl
 ·simp only [cond_true];unfold a6f;rw [show decide ((w.d7.length:Int)>=60)=decide (60<=w.d7.length) by simp;omega];cases decide (60<=w.d7.length)
  ·simp only [cond_false];have hr:=b2o hni (c7h he);have hl:=c5B n e.i6;rw [d8u hni he,f5i];simp only;rw [b05 h.nl h.ml h.tl (by rw [hr.id];exact hni.id) (by omega) (by simp),f5i,a2Z,hr.id,hid,hn];rcases e6x n e.i6 with ⟨c1,c2,c3⟩|⟨c1,c2⟩
   ·rw [show ((N4 n e.i6).1.Seq != n.Seq)=true by rw [c2];simp;omega,show decide ((N4 n e.i6).1.Seq>n.Seq)=true by rw [c2];simp;omega];simp only [cond_true];rw [u7 (by show (w.d7.length+1)*40<=_;omega)];simp only [f5i,l9.go,b6C];rw [c3,c2,hid];rfl
   ·rw [c2,show (n.Seq != n.Seq)=false by simp,show decide (n.Seq>n.Seq)=false by simp];rfl
  ·rfl
theorem d7e{w:m5}(h:WI w){e:s5}{k:Nat}(hA:e.A=(k:Int))(hk:k<w.c8.length)(hkd:(e.a8==2||(e.a8==3||e.a8==4))=true):a8Z w e=some (a2E w e):=by
 have hml:=h.ml;unfold a8Z a2E;rw [hA,t9 hk,f5i,show decide (0<=(k:Int))=true by simp,f5I,f5j hk];have hm:=h.ms _ (f5l hk);generalize w.c8[k]=m at hm;have hof:=f3I hk (by omega);have ht:=hm.to;obtain ⟨t,htt⟩:∃t:Nat,m.To=(t:Int):=⟨m.To.toNat,by omega⟩
 simp only [cond_true];by_cases k2:e.a8=2
 ·rw [show (e.a8==2)=true by simpa using k2,show (e.a8==4)=false by simp [k2],show (e.a8==3)=false by simp [k2]];simp only [cond_true,cond_false];have ho:=h.off (k:Int);obtain ⟨n,hg,hn,hid,hni,hlt⟩:=a7t ho (i:=t) (by omega);have hn':I9 w (t:Int)=n:=hn;have hg':w.a9[t]?=some n:=hg;have hr:=b6Z hni hm;obtain ⟨l1,l2⟩:=b7r hni m;rw [hof,f5i,htt,a8S,hg',f5i,f2L hni hm (htt.trans hid.symm),f5i,b05 (w:=⟨w.a9,w.c8.take k++w.c8.drop (k+1),w.d7,w.Told⟩) h.nl ho.ml h.tl (by rw [hr.id];exact hni.id) (by omega) (by omega),f5i,hn',hr.id,hid];rfl
 ·rw [show (e.a8==2)=false by simpa using k2];cases k3:e.a8==3
  ·rw [show (e.a8==4)=true by rw [show (e.a8==2)=false by simpa using k2,k3] at hkd;simpa using hkd];simp only [cond_true,cond_false];obtain ⟨n,hg,hn,hid,hni,hlt⟩:=a7t h (i:=t) (by omega);rw [htt,a8S,hg,f5i,b05 h.nl h.ml h.tl hni.id (by simp) (by simp),f5i,a2Z,hid,c5d hg];rfl
  ·rw [show (e.a8==4)=false by simp only [beq_iff_eq] at k3;simp [k3]];simp only [cond_true,cond_false];rw [hof];rfl
theorem f3d{w:m5}(h:WI w){e:s5}(he:L1 e):b7G w e=some (D7 w e):=by
 have hd:=a6v h he;have hml:=h.ml;have hcp:a1S w=some w:=c0c h.ok;have hcd:a1S (D7 w e)=some (D7 w e):=c0c hd.2.ok;have hin:m8 ((w.a9.length:Int)-1)=2:=by rw [h.nl];rfl
 have hnode:(e.a8==2||(e.a8==3||e.a8==4))=false->((D4 e.A 0 2).bind fun in_=>bif in_ then (a5F w e).bind fun o=>some (l9.brk o) else some (l9.brk w):Option (l9 m5 m5))=some (.brk (D7 w e)):=by
  intro hk;rw [M7,f5i,c1M,hk];cases hi:p9 e.A 0 2
  ·rfl
  ·simp only [cond_true,cond_false];rw [e6s h he hi];rfl
 have hmsg:(e.a8==2||(e.a8==3||e.a8==4))=true->((D4 e.A 0 (m8 ((w.c8.length:Int)-1))).bind fun in_=>bif in_ then (a8Z w e).bind fun o=>some (l9.brk o) else some (l9.brk w):Option (l9 m5 m5))=some (.brk (D7 w e)):=by
  intro hk;rw [C2 (by omega) (by omega),M7,f5i,c1M,hk];cases hi:p9 e.A 0 ((w.c8.length:Int)-1)
  ·simp only [cond_true,cond_false];rw [show a2E w e=w by
    unfold a2E;cases h0:decide (0<=e.A)
    ·rfl
    ·have:¬(0<=e.A/\e.A<=(w.c8.length:Int)-1):=fun q=>by rw [K4.2 q] at hi;cases hi
     have h0':0<=e.A:=of_decide_eq_true h0;rw [f5O (by omega)];rfl]
  ·rw [K4] at hi;simp only [cond_true];rw [d7e h (k:=e.A.toNat) (by omega) (by omega) hk];rfl
 unfold b7G;rw [hcp,f5i,hin];by_cases k1:e.a8=1
 ·have hf:(e.a8==2||(e.a8==3||e.a8==4))=false:=by simp [k1]
  rw [show (e.a8==1)=true by simpa using k1];simp only [cond_true];rw [hnode hf];simp only [f5i,l9.go,c1q,hcd]
 rw [show (e.a8==1)=false by simpa using k1];by_cases k5:e.a8=5
 ·have hf:(e.a8==2||(e.a8==3||e.a8==4))=false:=by simp [k5]
  rw [show (e.a8==5)=true by simpa using k5];simp only [cond_true,cond_false];rw [hnode hf];simp only [f5i,l9.go,c2J,hcd]
 rw [show (e.a8==5)=false by simpa using k5];by_cases k6:e.a8=6
 ·have hf:(e.a8==2||(e.a8==3||e.a8==4))=false:=by simp [k6]
  rw [show (e.a8==6)=true by simpa using k6];simp only [cond_true,cond_false];rw [hnode hf];simp only [f5i,l9.go,c3a,hcd]
 rw [show (e.a8==6)=false by simpa using k6];simp only [cond_false];have fin:∀X:Option (l9 m5 m5),X=some (.brk (D7 w e))->(X.bind fun x=>x.go some fun j=>b7H j)=some (D7 w e):=by
  intro X hX;rw [hX];simp only [f5i,l9.go,b7H,hcd]
 refine fin _ ?_;by_cases k7:e.a8=7
 ·rw [show (e.a8==7)=true by simpa using k7];exact hnode (by simp [k7])
 rw [show (e.a8==7)=false by simpa using k7];by_cases k2:e.a8=2
 ·rw [show (e.a8==2)=true by simpa using k2];exact hmsg (by simp [k2])
 by_cases k3:e.a8=3
 ·rw [show (e.a8==2)=false by simpa using k2,show (e.a8==3)=true by simpa using k3];exact hmsg (by simp [k3])
 by_cases k4:e.a8=4
 ·rw [show (e.a8==2)=false by simpa using k2,show (e.a8==3)=false by simpa using k3,show (e.a8==4)=true by simpa using k4];exact hmsg (by simp [k4])
 have e2:(e.a8==2)=false:=by simpa using k2
 have e3:(e.a8==3)=false:=by simpa using k3
 have e4:(e.a8==4)=false:=by simpa using k4
 rw [e2,e3,e4,c1M,e2,e3,e4];have:onN w e=w:=by
  unfold onN;rw [show (e.a8==1)=false by simpa using k1,show (e.a8==5)=false by simpa using k5,show (e.a8==6)=false by simpa using k6,show (e.a8==7)=false by simpa using k7];rfl
 rw [this];cases p9 e.A 0 2<;>rfl
theorem c9z{l:List s5}(hl:s9 l)(he:∀e∈l,L1 e):∀(d k:Nat) (w:m5),WI w->l.length-k=d->p8 (fun s:Int×m5=>a6X l s.1 s.2) ((k:Int),w)=some (.brk (a1f w (l.drop k)))
 | 0,k,w,h,hd=>by
  rw [f5F (by omega)];refine C6 (body:=fun s:Int×m5=>a6X l s.1 s.2) (b:=w) ?_;unfold a6X;rw [show decide ((k:Int)<(l.length:Int))=false by simp;omega];rfl
 | d+1,k,w,h,hd=>by
  have hlt:k<l.length:=by omega
  have hek:=he _ (f5l hlt);rw [E3 (body:=fun s:Int×m5=>a6X l s.1 s.2) (t:=(((k+1:Nat):Int),D7 w l[k])) (by
   unfold a6X;rw [x8 _ k hlt,t9 hlt,cond_true,f5i,f3d h hek,f5i,E9 hl hlt]),c9z hl he d (k+1) _ (a6v h hek).2 (by omega),f5z hlt]
  rfl
theorem e9L{w:m5}(h:R7 w){l:List s5}(hl:s9 l)(he:∀e∈l,L1 e):b3L w l=some (bif C9 w&&decide (l.length<=400) then a1f w l else noW):=by
 unfold b3L;rw [b1Y h,f5i,show decide ((l.length:Int)>400) = !decide (l.length<=400) from b04 l 400];cases hw:C9 w
 ·rfl
 ·cases decide (l.length<=400)
  ·rfl
  ·simp only [f5n,cond_false,Bool.and_self,cond_true];rw [c0c h,f5i,show p8 (fun s:Int×m5=>a6X l s.1 s.2) (0,w)=_ from c9z hl he l.length 0 w (a4u.1 hw) rfl];rfl
theorem e4W{l:List s5}(he:∀e∈l,L1 e)(hl:l.length<=300):b3L P8 l=some (a1f P8 l)/\b4D P8 l=some (a1f P8 l)/\WI (a1f P8 l):=by
 have hf:s9 l:=by unfold s9;omega
 have h:=WI.open;refine ⟨?_,?_,c7B h he⟩
 ·rw [e9L h.ok hf he,a4u.2 h,decide_eq_true (by omega)];rfl
 ·rw [e9s h.ok hf he,a4u.2 h,decide_eq_true (by omega)];rfl
def D3(i:Int):Prop:=0<=i/\i<=2
abbrev VR:=Int->Nat->Int->m4->Prop
abbrev PR:=Int->Nat->m4->Prop
abbrev MS:=l8->Prop
def a2x(V:VR)(s:Nat)(e:m4):Prop := ∃b p q,D3 p/\D3 q/\p≠q/\V p s b e/\V q s b e
structure Cov(N:Int->j6)(V:VR)(n:j6)(q:Int):Prop where
 pr:n.a7<=(N q).Acc.g9
 cv:∀s b e,n.a5.length<=s->b<n.a7->V q s b e->∃v,n.i0[s]?=some v/\b<=v.a7
def Quo(p:Int->Prop):Prop := ∃a b,D3 a/\D3 b/\a≠b/\p a/\p b
structure LD(N:Int->j6)(V:VR)(P:PR)(n:j6):Prop where
 bs:n.d8≠0->∀s v,n.i0[s]?=some v->v.a7>0->v.a7<n.a7/\∃q,V q s v.a7 v.i4
 l1:n.d8=1->(∀s e,¬P n.a7 s e)/\∀q,D3 q->n.c9[q.toNat]?=some true->Cov N V n q
 l2:n.d8=2->(∀s e,P n.a7 s e->s<n.a5.length)/\Quo (Cov N V n)
 l3:n.d8=3->P n.a7 n.a5.length n.d6/\(∀s e,P n.a7 s e->s<=n.a5.length)/\Quo (Cov N V n)/\∀q,D3 q->n.a6[q.toNat]?=some true->V q n.a5.length n.a7 n.d6
structure MV(N:Int->j6)(V:VR)(P:PR)(m:l8):Prop where
 k1:m.a8=1->f5K m.a7 3=m.c9/\m.g8<=(N m.c9).a5.length
 k2:m.a8=2->m.g8<=(N m.To).a5.length/\m.a7<=(N m.c9).Acc.g9/\(∀s b e,m.g8.toNat<=s->b<m.a7->V m.c9 s b e->∃v,m.a6[s-m.g8.toNat]?=some v/\b<=v.a7)/\∀k v,m.a6[k]?=some v->v.a7>0->v.a7<=m.a7/\V m.c9 (m.g8.toNat+k) v.a7 v.i4
 k3:m.a8=3->P m.a7 m.g8.toNat m.i4
 k4:m.a8=4->∃e,V m.c9 m.g8.toNat m.a7 e
 k5:m.a8=5->a2x V m.g8.toNat m.i4
def Sf(N:Int->j6)(V:VR)(b:Int)(s:Nat)(e:m4)(q:Int):Prop :=
 b<=(N q).Acc.g9/\∀b' e',b'<b->V q s b' e'->∃b1 q1,b'<=b1/\b1<b/\V q1 s b1 e
structure PX(N:Int->j6)(V:VR)(P:PR)(M:MS):Prop where
 ni:∀i,D3 i->NI (N i)/\(N i).Id=i
 vp:∀i s b e,V i s b e->D3 i/\P b s e/\1<=b/\b<=(N i).Acc.g9
 cur:∀i s v,D3 i->(N i).Acc.a6[s]?=some v->v.a7>0->V i s v.a7 v.i4
 max:∀i s b e,V i s b e->∃v,(N i).Acc.a6[s]?=some v/\b<=v.a7
 pu:∀b s e e',P b s e->P b s e'->e=e'
 po:∀b s e,P b s e->1<=b/\b<=(N (f5K b 3)).Acc.g9
 safe:∀b s e,P b s e->Quo (Sf N V b s e)
 ld:∀i,D3 i->LD N V P (N i)
 kn:∀i s e,D3 i->(N i).a5[s]?=some e->a2x V s e
 ms:∀m,M m->MI m/\MV N V P m
theorem e0B{p q:Int->Prop}(hp:Quo p)(hq:Quo q):∃a,D3 a/\p a/\q a:=by
 obtain ⟨a,b,ha,hb,hab,pa,pb⟩:=hp;obtain ⟨c,d,hc,hd,hcd,qc,qd⟩:=hq;unfold D3 at *;by_cases h1:a=c
 ·exact ⟨a,ha,pa,h1▸qc⟩
 by_cases h2:a=d
 ·exact ⟨a,ha,pa,h2▸qd⟩
 by_cases h3:b=c
 ·exact ⟨b,hb,pb,h3▸qc⟩
 by_cases h4:b=d
 ·exact ⟨b,hb,pb,h4▸qd⟩
 omega
section
variable {N:Int->j6} {V:VR} {P:PR} {M:MS}
theorem PX.later(h:PX N V P M){s:Nat}{b0:Int}{e0:m4}(hc:Quo fun q=>V q s b0 e0):∀(k:Nat) (b:Int) (e:m4),b.toNat=k->b0<=b->P b s e->e=e0:=by
 have h0:P b0 s e0:=by obtain ⟨p,q,_,_,_,v,_⟩:=hc;exact (h.vp _ _ _ _ v).2.1
 intro k;induction k using Nat.strongRecOn with
 | _ k ih =>
  intro b e hb hle hp;by_cases hq:b0=b
  ·subst hq;exact h.pu _ _ _ _ hp h0
  ·obtain ⟨a,ha,v,s1,s2⟩:=e0B hc (h.safe b s e hp);obtain ⟨b1,q1,h1,h2,h3⟩:=s2 b0 e0 (by omega) v;obtain ⟨_,p1,p2,_⟩:=h.vp _ _ _ _ h3;exact ih b1.toNat (by omega) b1 e rfl h1 p1
theorem PX.one(h:PX N V P M){s:Nat}{e e':m4}(h1:a2x V s e)(h2:a2x V s e'):e=e':=by
 obtain ⟨b,p,q,hp,hq,hpq,v1,v2⟩:=h1;obtain ⟨b',p',q',hp',hq',hpq',w1,w2⟩:=h2;have c1:Quo fun q=>V q s b e:=⟨p,q,hp,hq,hpq,v1,v2⟩
 have c2:Quo fun q=>V q s b' e':=⟨p',q',hp',hq',hpq',w1,w2⟩
 rcases Int.le_total b b' with hl|hl
 ·exact (h.later c1 _ b' e' rfl hl (h.vp _ _ _ _ w1).2.1).symm
 ·exact h.later c2 _ b e rfl hl (h.vp _ _ _ _ v1).2.1
end
def upd(N:Int->j6)(i:Int)(n:j6):Int->j6:=fun j=>if j=i then n else N j
theorem S9(N:Int->j6)(i:Int)(n:j6):upd N i n i=n:=if_pos rfl
theorem b1t{N:Int->j6}{i j:Int}(n:j6)(h:j≠i):upd N i n j=N j:=if_neg h
theorem a3d(N:Int->j6)(i:Int)(a b:j6):upd (upd N i a) i b=upd N i b:=by
 funext j;unfold upd;split<;>rfl
theorem a7A(N:Int->j6)(i:Int):upd N i (N i)=N:=by
 funext j;unfold upd;split
 ·rename_i h;rw [h]
 ·rfl
theorem a0O.own{n:j6}(h:a0O n)(hp:n.d8≠0):Own n:=by
 rcases h with q|q|q|q
 ·exact absurd q.1 hp
 ·exact q.2.1
 ·exact q.2.1
 ·exact q.2.1
structure Chg(N:Int->j6)(V:VR)(P:PR)(M:MS)(i:Int)(n':j6)(V':VR)(P':PR)(M':MS):Prop where
 ni:NI n'
 id:n'.Id=i
 pr:(N i).Acc.g9<=n'.Acc.g9
 kl:(N i).a5.length<=n'.a5.length
 v1:∀q s b e,V q s b e->V' q s b e
 v2:∀q s b e,V' q s b e->V q s b e\/(q=i/\(N i).Acc.g9<=b/\1<=b/\b<=n'.Acc.g9/\P' b s e)
 p1:∀b s e,P b s e->P' b s e
 p2:∀b s e,P' b s e->P b s e\/(b=n'.a7/\n'.d8=3/\(∀e',P' b s e'->e'=e)/\Quo (Sf (upd N i n') V' b s e))
 cur:∀s v,n'.Acc.a6[s]?=some v->v.a7>0->V' i s v.a7 v.i4
 max:∀s b e,V' i s b e->∃v,n'.Acc.a6[s]?=some v/\b<=v.a7
 ld:LD (upd N i n') V' P' n'
 kn:∀s e,n'.a5[s]?=some e->a2x V' s e
 ms:∀m,M' m->M m\/(MI m/\MV (upd N i n') V' P' m)
section
variable {N:Int->j6} {V:VR} {P:PR} {M:MS} {i:Int} {n':j6} {V':VR} {P':PR} {M':MS}
theorem Chg.prm(c:Chg N V P M i n' V' P' M')(q:Int):(N q).Acc.g9<=(upd N i n' q).Acc.g9:=by
 unfold upd;split
 ·rename_i h;rw [h];exact c.pr
 ·exact f5H _
theorem Chg.len(c:Chg N V P M i n' V' P' M')(q:Int):(N q).a5.length<=(upd N i n' q).a5.length:=by
 unfold upd;split
 ·rename_i h;rw [h];exact c.kl
 ·exact f5y _
theorem Chg.old(c:Chg N V P M i n' V' P' M'){q:Int}{s:Nat}{b x:Int}{e:m4}(hx:x<=(N q).Acc.g9)(hb:b<x)(v:V' q s b e):V q s b e:=by
 rcases c.v2 q s b e v with v|⟨rfl,v1,_⟩
 ·exact v
 ·omega
theorem Chg.cov(c:Chg N V P M i n' V' P' M'){n:j6}{q:Int}(h:Cov N V n q):Cov (upd N i n') V' n q :=
 ⟨f6d h.pr (c.prm q),fun s b e hs hb v=>h.cv s b e hs hb (c.old h.pr hb v)⟩
theorem Quo.imp{p q:Int->Prop}(h:Quo p)(hi:∀a,D3 a->p a->q a):Quo q:=by
 obtain ⟨a,b,ha,hb,hab,pa,pb⟩:=h;exact ⟨a,b,ha,hb,hab,hi a ha pa,hi b hb pb⟩
theorem Chg.sf(c:Chg N V P M i n' V' P' M'){b:Int}{s:Nat}{e:m4}{q:Int}(h:Sf N V b s e q):Sf (upd N i n') V' b s e q :=
 ⟨f6d h.1 (c.prm q),fun b' e' hb v=>by
  obtain ⟨b1,q1,x1,x2,x3⟩:=h.2 b' e' hb (c.old h.1 hb v);exact ⟨b1,q1,x1,x2,c.v1 _ _ _ _ x3⟩⟩
theorem a2x.mono(h:∀q s b e,V q s b e->V' q s b e){s:Nat}{e:m4}(hc:a2x V s e):a2x V' s e:=by
 obtain ⟨b,p,q,hp,hq,hpq,v1,v2⟩:=hc;exact ⟨b,p,q,hp,hq,hpq,h _ _ _ _ v1,h _ _ _ _ v2⟩
theorem Chg.ldo(c:Chg N V P M i n' V' P' M')(hi:D3 i){n:j6}(hn:NI n)(hne:n.Id≠i)(h:LD N V P n):LD (upd N i n') V' P' n:=by
 have hp:n.d8≠0->∀s e,P' n.a7 s e->P n.a7 s e:=by
  intro h0 s e hp;rcases c.p2 _ _ _ hp with q|⟨hb,h3,_⟩
  ·exact q
  ·exfalso
   have o1:=(hn.ld.own h0).mod;have o2:=(c.ni.ld.own (by omega)).mod;rw [<-hb,o1,c.id] at o2;exact hne o2
 refine ⟨fun h0 s v hs hv => ?_,fun h1 => ?_,fun h2 => ?_,fun h3 => ?_⟩
 ·obtain ⟨x1,q,x2⟩:=h.bs h0 s v hs hv;exact ⟨x1,q,c.v1 _ _ _ _ x2⟩
 ·obtain ⟨x1,x2⟩:=h.l1 h1;exact ⟨fun s e q=>x1 s e (hp (by omega) s e q),fun q hq hf=>c.cov (x2 q hq hf)⟩
 ·obtain ⟨x1,x2⟩:=h.l2 h2;exact ⟨fun s e q=>x1 s e (hp (by omega) s e q),x2.imp fun a _=>c.cov⟩
 ·obtain ⟨x1,x2,x3,x4⟩:=h.l3 h3;exact ⟨c.p1 _ _ _ x1,fun s e q=>x2 s e (hp (by omega) s e q),x3.imp fun a _=>c.cov,fun q hq hv=>c.v1 _ _ _ _ (x4 q hq hv)⟩
theorem Chg.msg(c:Chg N V P M i n' V' P' M'){m:l8}(h:MV N V P m):MV (upd N i n') V' P' m:=by
 refine ⟨fun k => ?_,fun k => ?_,fun k=>c.p1 _ _ _ (h.k3 k),fun k => ?_,fun k=>(h.k5 k).mono c.v1⟩
 ·obtain ⟨x1,x2⟩:=h.k1 k;have:=c.len m.c9;exact ⟨x1,by omega⟩
 ·obtain ⟨x1,x2,x3,x4⟩:=h.k2 k;have:=c.len m.To;refine ⟨by omega,f6d x2 (c.prm _),fun s b e hs hb v=>x3 s b e hs hb (c.old x2 hb v),fun k v hk hv => ?_⟩;obtain ⟨y1,y2⟩:=x4 k v hk hv;exact ⟨y1,c.v1 _ _ _ _ y2⟩
 ·obtain ⟨e,x⟩:=h.k4 k;exact ⟨e,c.v1 _ _ _ _ x⟩
theorem PX.step(h:PX N V P M)(hi:D3 i)(c:Chg N V P M i n' V' P' M'):PX (upd N i n') V' P' M':=by
 have hpo:∀b s e,P' b s e->1<=b/\b<=(upd N i n' (f5K b 3)).Acc.g9:=by
  intro b s e hp;rcases c.p2 _ _ _ hp with q|⟨rfl,h3,_⟩
  ·obtain ⟨x1,x2⟩:=h.po _ _ _ q;exact ⟨x1,f6d x2 (c.prm _)⟩
  ·have o:=c.ni.ld.own (by omega);have ho:=o.mod;rw [c.id] at ho;rw [ho,S9];exact ⟨o.b1,o.pr⟩
 refine ⟨fun j hj => ?_,fun j s b e v => ?_,fun j s v hj hs hv => ?_,fun j s b e v => ?_,fun b s e e' p p' => ?_,hpo,fun b s e p => ?_,fun j hj => ?_,fun j s e hj hk => ?_,fun m hm => ?_⟩
 ·by_cases q:j=i
  ·subst q;rw [S9];exact ⟨c.ni,c.id⟩
  ·rw [b1t _ q];exact h.ni j hj
 ·rcases c.v2 _ _ _ _ v with v|⟨rfl,x1,x2,x3,x4⟩
  ·obtain ⟨x1,x2,x3,x4⟩:=h.vp _ _ _ _ v;exact ⟨x1,c.p1 _ _ _ x2,x3,f6d x4 (c.prm _)⟩
  ·rw [S9];exact ⟨hi,x4,x2,x3⟩
 ·by_cases q:j=i
  ·subst q;rw [S9] at hs;exact c.cur s v hs hv
  ·rw [b1t _ q] at hs;exact c.v1 _ _ _ _ (h.cur j s v hj hs hv)
 ·by_cases q:j=i
  ·subst q;rw [S9];exact c.max s b e v
  ·rw [b1t _ q];rcases c.v2 _ _ _ _ v with v|⟨x,_⟩
   ·exact h.max _ _ _ _ v
   ·exact absurd x q
 ·rcases c.p2 _ _ _ p with p|⟨_,_,x,_⟩
  ·rcases c.p2 _ _ _ p' with p'|⟨_,_,x,_⟩
   ·exact h.pu _ _ _ _ p p'
   ·exact x e (c.p1 _ _ _ p)
  ·exact (x e' p').symm
 ·rcases c.p2 _ _ _ p with p|⟨_,_,_,x⟩
  ·exact (h.safe _ _ _ p).imp fun a _=>c.sf
  ·exact x
 ·by_cases q:j=i
  ·subst q;rw [S9];exact c.ld
  ·rw [b1t _ q];exact c.ldo hi (h.ni j hj).1 (by rw [(h.ni j hj).2];exact q) (h.ld j hj)
 ·by_cases q:j=i
  ·subst q;rw [S9] at hk;exact c.kn s e hk
  ·rw [b1t _ q] at hk;exact (h.kn j s e hj hk).mono c.v1
 ·rcases c.ms m hm with q|q
  ·exact ⟨(h.ms m q).1,c.msg (h.ms m q).2⟩
  ·exact q
end
def snd(M:MS)(l:List l8):MS:=fun m=>M m\/m∈l
def L2(N:Int->j6)(M:MS)(i:Int)(n':j6)(l:List l8):Prop := ∃V' P',PX (upd N i n') V' P' (snd M l)
section
variable {N N':Int->j6} {V V':VR} {P P':PR} {M:MS} {i:Int} {n n':j6}
theorem PX.send(h:PX N V P M){l:List l8}(hl:∀m∈l,MI m/\MV N V P m):PX N V P (snd M l) :=
 {h with ms:=fun m hm=>hm.elim (h.ms m) (hl m)}
theorem a7G(M:MS):snd M []=M:=by
 funext m;unfold snd;simp
theorem d4N(M:MS)(a b:List l8):snd (snd M a) b=snd M (a++b):=by
 funext m;unfold snd;simp [or_assoc]
theorem L2.same(h:PX N V P M):L2 N M i (N i) []:=⟨V,P,by rw [a7A,a7G];exact h⟩
theorem LD.same(h:LD N V P n)(hpr:∀q,(N q).Acc.g9<=(N' q).Acc.g9)(hV:∀q s b e,V q s b e->V' q s b e)(hold:∀q s b x e,x<=(N q).Acc.g9->b<x->V' q s b e->V q s b e)(hP:∀b s e,P b s e->P' b s e)(hP':∀s e,P' n.a7 s e->P n.a7 s e)(e1:n'.d8=n.d8)(e2:n'.a7=n.a7)(e3:n'.i0=n.i0)(e4:n'.a5=n.a5)(e5:n'.c9=n.c9)(e6:n'.d6=n.d6)(e7:n'.a6=n.a6):LD N' V' P' n':=by
 have hc:∀q,Cov N V n q->Cov N' V' n' q:=fun q c=>by
  refine ⟨by rw [e2];exact f6d c.pr (hpr q),?_⟩;rw [e2,e3,e4];exact fun s b e hs hb v=>c.cv s b e hs hb (hold _ _ _ _ _ c.pr hb v)
 refine ⟨?_,?_,?_,?_⟩
 ·rw [e1,e2,e3];intro h0 s v hs hv;obtain ⟨x1,q,x2⟩:=h.bs h0 s v hs hv;exact ⟨x1,q,hV _ _ _ _ x2⟩
 ·rw [e1,e2,e5];intro h1;obtain ⟨x1,x2⟩:=h.l1 h1;exact ⟨fun s e p=>x1 s e (hP' s e p),fun q hq hf=>hc q (x2 q hq hf)⟩
 ·rw [e1,e2,e4];intro h2;obtain ⟨x1,x2⟩:=h.l2 h2;exact ⟨fun s e p=>x1 s e (hP' s e p),x2.imp fun q _=>hc q⟩
 ·rw [e1,e2,e4,e6,e7];intro h3;obtain ⟨x1,x2,x3,x4⟩:=h.l3 h3;exact ⟨hP _ _ _ x1,fun s e p=>x2 s e (hP' s e p),x3.imp fun q _=>hc q,fun q hq hv=>hV _ _ _ _ (x4 q hq hv)⟩
theorem LD.none(h:n.d8=0):LD N V P n:=⟨fun q=>absurd h q,fun q=>by omega,fun q=>by omega,fun q=>by omega⟩
theorem a8a(hpr:(N i).Acc.g9<=n'.Acc.g9)(q:Int):(N q).Acc.g9<=(upd N i n' q).Acc.g9:=by
 unfold upd;split
 ·rename_i h;rw [h];exact hpr
 ·exact f5H _
theorem PX.quiet(h:PX N V P M)(hi:D3 i)(hni:NI n')(hid:n'.Id=i)(hpr:(N i).Acc.g9<=n'.Acc.g9)(hvt:n'.Acc.a6=(N i).Acc.a6)(hk:n'.a5=(N i).a5)(hld:LD (upd N i n') V P n'):PX (upd N i n') V P M :=
 h.step hi ⟨hni,hid,hpr,by rw [hk];exact f5y _,fun _ _ _ _ v=>v,fun _ _ _ _ v=>.inl v,fun _ _ _ p=>p,fun _ _ _ p=>.inl p,by rw [hvt];exact fun s v=>h.cur i s v hi,by rw [hvt];exact fun s b e=>h.max i s b e,hld,by rw [hk];exact fun s e=>h.kn i s e hi,fun m hm=>.inl hm⟩
theorem PX.keep(h:PX N V P M)(hi:D3 i)(hni:NI n')(hid:n'.Id=i)(hpr:(N i).Acc.g9<=n'.Acc.g9)(hvt:n'.Acc.a6=(N i).Acc.a6)(hk:n'.a5=(N i).a5)(e1:n'.d8=(N i).d8)(e2:n'.a7=(N i).a7)(e3:n'.i0=(N i).i0)(e5:n'.c9=(N i).c9)(e6:n'.d6=(N i).d6)(e7:n'.a6=(N i).a6):PX (upd N i n') V P M :=
 h.quiet hi hni hid hpr hvt hk ((h.ld i hi).same (a8a hpr) (fun _ _ _ _ v=>v) (fun _ _ _ _ _ _ _ v=>v) (fun _ _ _ p=>p) (fun _ _ p=>p) e1 e2 e3 hk e5 e6 e7)
theorem PX.down(h:PX N V P M)(hi:D3 i):PX (upd N i (a3v (N i))) V P M :=
 h.quiet hi (h.ni i hi).1.down (h.ni i hi).2 (f5H _) rfl rfl (.none rfl)
theorem PX.promise(h:PX N V P M)(hi:D3 i){b:Int}{x:z0}(hp:I3 (N i).Acc b=some x):PX (upd N i {N i with Acc:=x}) V P M:=by
 obtain ⟨rfl,h1,h2,h3⟩:=a4m hp;exact h.keep hi ((h.ni i hi).1.promise hp) (h.ni i hi).2 h3 rfl rfl rfl rfl rfl rfl rfl rfl
theorem PX.yield(h:PX N V P M)(hi:D3 i)(b:Int):PX (upd N i (N0 (N i) b)) V P M:=by
 unfold N0;cases (N i).d8 != 0&&decide (b>(N i).a7)
 ·simp only [cond_false];rw [a7A];exact h
 ·exact h.down hi
theorem PX.free(h:PX N V P M)(hi:D3 i):PX (upd N i (U5 (N i)).1) V P M:=by
 rcases b0W (N i) with q|⟨k,_,_,q⟩<;>rw [q]
 ·rw [a7A];exact h
 ·exact h.keep hi (h.ni i hi).1.freeN (h.ni i hi).2 (f5H _) rfl rfl rfl rfl rfl rfl rfl rfl
theorem e0c{vs:List m7}{n s:Nat}{v:m7}(h:(T4 vs n)[s]?=some v):vs[s]?=some v\/v=v0:=by
 unfold T4 at h;rw [f7m] at h;split at h
 ·exact .inl h
 ·rw [List.getElem?_replicate] at h;split at h
  ·injection h with h;exact .inr h.symm
  ·cases h
theorem e9m{vs:List m7}{s:Nat}{v:m7}(n:Nat)(h:vs[s]?=some v):(T4 vs n)[s]?=some v:=by
 unfold T4;rw [f5E (f5o.1 h).1];exact h
def a82(V:VR)(i:Int)(k:Nat)(b:Int)(e:m4):VR:=fun q s c f=>V q s c f\/(q=i/\s=k/\c=b/\f=e)
theorem c7N(h:PX N V P M)(hi:D3 i){b s:Int}{e:m4}{x:z0}(hc:K5 (N i).Acc b s e=some x):∃k:Nat,s=(k:Int)/\k<40/\1<=b/\b<=3000/\(N i).Acc.g9<=b/\x.g9=b/\z5 e=true/\
  (∀s v,x.a6[s]?=some v->v.a7>0->a82 V i k b e i s v.a7 v.i4)/\(∀s c f,a82 V i k b e i s c f->∃v,x.a6[s]?=some v/\c<=v.a7):=by
 obtain ⟨k,rfl,hk,he,h1,h2,h3,rfl⟩:=b7Z hc;have hlen:k<(T4 (N i).Acc.a6 (k+1)).length:=by rw [b48];omega
 refine ⟨k,rfl,hk,h1,h2,h3,rfl,he,fun s v hs hv => ?_,fun s c f v => ?_⟩
 ·simp only [f6H] at hs;split at hs
  ·rename_i hq;injection hs with hs;subst hs;exact .inr ⟨rfl,hq.symm,rfl,rfl⟩
  ·rcases e0c hs with q|q
   ·exact .inl (h.cur i s v hi q hv)
   ·rw [q] at hv;exact absurd hv (by decide)
 ·simp only [f6H];by_cases hq:k=s
  ·subst hq;rw [if_pos rfl,if_pos hlen];refine ⟨_,rfl,?_⟩;rcases v with v|⟨_,_,rfl,_⟩
   ·have:=(h.vp _ _ _ _ v).2.2.2;simp only;omega
   ·exact f5H _
  ·rw [if_neg hq];rcases v with v|⟨_,x,_⟩
   ·obtain ⟨v',y1,y2⟩:=h.max _ _ _ _ v;exact ⟨v',e9m _ y1,y2⟩
   ·exact absurd x.symm hq
theorem c0J{k:Nat}{b:Int}{e:m4}(hb:(N i).Acc.g9<=b){q:Int}{s:Nat}{c x:Int}{f:m4}(hx:x<=(N q).Acc.g9)(hc:c<x)(v:a82 V i k b e q s c f):V q s c f:=by
 rcases v with v|⟨rfl,_,rfl,_⟩
 ·exact v
 ·omega
theorem PX.vote(h:PX N V P M)(hi:D3 i){b s:Int}{e:m4}{x:z0}(hc:K5 (N i).Acc b s e=some x)(hp:P b s.toNat e):PX (upd N i {N i with Acc:=x}) (a82 V i s.toNat b e) P M:=by
 obtain ⟨k,rfl,hk,h1,h2,h3,h4,he,c1,c2⟩:=c7N h hi hc;rw [f5I] at hp ⊢;have hpr:(N i).Acc.g9<=({N i with Acc:=x}:j6).Acc.g9:=by show _<=x.g9;rw [h4];exact h3
 refine h.step hi ⟨(h.ni i hi).1.cast hc,(h.ni i hi).2,hpr,f5y _,fun _ _ _ _ v=>.inl v,fun q s c f v => ?_,fun _ _ _ p=>p,fun _ _ _ p=>.inl p,c1,c2,?_,fun s e hk=>(h.kn i s e hi hk).mono fun _ _ _ _ v=>.inl v,fun m hm=>.inl hm⟩
 ·rcases v with v|⟨rfl,rfl,rfl,rfl⟩
  ·exact .inl v
  ·exact .inr ⟨rfl,h3,h1,by show _<=x.g9;rw [h4];exact f5H _,hp⟩
 ·exact (h.ld i hi).same (a8a hpr) (fun _ _ _ _ v=>.inl v) (fun q s c x f hx hc v=>c0J h3 hx hc v) (fun _ _ _ p=>p) (fun _ _ p=>p) rfl rfl rfl rfl rfl rfl rfl
theorem PX.know(h:PX N V P M)(hi:D3 i){e:m4}(he:z5 e=true)(hl:(N i).a5.length<40)(hc:a2x V (N i).a5.length e):PX (upd N i (E1 (N i) e)) V P M:=by
 have hk:=c0B (N i) e;have hacc:(E1 (N i) e).Acc=(N i).Acc:=by unfold E1;cases (N i).d8==3<;>rfl
 have hb:(E1 (N i) e).a7=(N i).a7:=by unfold E1;cases (N i).d8==3<;>rfl
 have hbe:(E1 (N i) e).i0=(N i).i0:=by unfold E1;cases (N i).d8==3<;>rfl
 have hpr:(N i).Acc.g9<=(E1 (N i) e).Acc.g9:=by rw [hacc];exact f5H _
 have hcov:∀q,Cov N V (N i) q->Cov (upd N i (E1 (N i) e)) V (E1 (N i) e) q:=fun q c=>by
  refine ⟨by rw [hb];exact f6d c.pr (a8a hpr q),?_⟩;rw [hb,hbe,hk,f5u];exact fun s b e hs hb v=>c.cv s b e (by omega) hb v
 refine h.step hi ⟨(h.ni i hi).1.know he hl,(b6T _ _).trans (h.ni i hi).2,hpr,by rw [hk];simp,fun _ _ _ _ v=>v,fun _ _ _ _ v=>.inl v,fun _ _ _ p=>p,fun _ _ _ p=>.inl p,by rw [hacc];exact fun s v=>h.cur i s v hi,by rw [hacc];exact fun s b e=>h.max i s b e,?_,fun s f hs => ?_,fun m hm=>.inl hm⟩
 ·have hld:=h.ld i hi;refine ⟨?_,?_,?_,?_⟩
  ·intro h0;rw [hb,hbe];refine hld.bs ?_;intro q;apply h0;unfold E1;rw [show ((N i).d8==3)=false by simp [q]];exact q
  ·intro h1;have h1':(N i).d8=1:=by
    by_cases q:(N i).d8=3
    ·unfold E1 at h1;rw [show ((N i).d8==3)=true by simpa using q] at h1;cases h1
    ·unfold E1 at h1;rw [show ((N i).d8==3)=false by simpa using q] at h1;exact h1
   have hf:(E1 (N i) e).c9=(N i).c9:=by unfold E1;cases (N i).d8==3<;>rfl
   rw [hb,hf];exact ⟨(hld.l1 h1').1,fun q hq hf=>hcov q ((hld.l1 h1').2 q hq hf)⟩
  ·intro h2;rw [hb,hk,f5u,f6o];by_cases q:(N i).d8=3
   ·obtain ⟨x1,x2,x3,x4⟩:=hld.l3 q;exact ⟨fun s f p=>by have:=x2 s f p;omega,x3.imp fun q _=>hcov q⟩
   ·have h2':(N i).d8=2:=by
     unfold E1 at h2;rw [show ((N i).d8==3)=false by simpa using q] at h2;exact h2
    obtain ⟨x1,x2⟩:=hld.l2 h2';exact ⟨fun s f p=>by have:=x1 s f p;omega,x2.imp fun q _=>hcov q⟩
  ·intro h3;exfalso
   by_cases q:(N i).d8=3
   ·unfold E1 at h3;rw [show ((N i).d8==3)=true by simpa using q] at h3;cases h3
   ·unfold E1 at h3;rw [show ((N i).d8==3)=false by simpa using q] at h3;exact q h3
 ·rw [hk,f7m] at hs;split at hs
  ·exact h.kn i s f hi hs
  ·rename_i hge;rw [List.getElem?_singleton] at hs;split at hs
   ·injection hs with hs;subst hs;rw [show s=(N i).a5.length by omega];exact hc
   ·cases hs
end
section
variable {N:Int->j6} {V:VR} {P:PR} {M:MS} {i:Int}
theorem MV.other{m:l8}(h:m.a8=6\/m.a8=7\/m.a8=8):MV N V P m:=⟨fun k=>by omega,fun k=>by omega,fun k=>by omega,fun k=>by omega,fun k=>by omega⟩
theorem MV.c1{m:l8}(h:m.a8=1)(x:f5K m.a7 3=m.c9/\m.g8<=(N m.c9).a5.length):MV N V P m:=⟨fun _=>x,fun k=>by omega,fun k=>by omega,fun k=>by omega,fun k=>by omega⟩
theorem MV.c2{m:l8}(h:m.a8=2)(x:m.g8<=(N m.To).a5.length/\m.a7<=(N m.c9).Acc.g9/\(∀s b e,m.g8.toNat<=s->b<m.a7->V m.c9 s b e->∃v,m.a6[s-m.g8.toNat]?=some v/\b<=v.a7)/\∀k v,m.a6[k]?=some v->v.a7>0->v.a7<=m.a7/\V m.c9 (m.g8.toNat+k) v.a7 v.i4):MV N V P m:=⟨fun k=>by omega,fun _=>x,fun k=>by omega,fun k=>by omega,fun k=>by omega⟩
theorem MV.c3{m:l8}(h:m.a8=3)(x:P m.a7 m.g8.toNat m.i4):MV N V P m:=⟨fun k=>by omega,fun k=>by omega,fun _=>x,fun k=>by omega,fun k=>by omega⟩
theorem MV.c4{m:l8}(h:m.a8=4)(x:∃e,V m.c9 m.g8.toNat m.a7 e):MV N V P m:=⟨fun k=>by omega,fun k=>by omega,fun k=>by omega,fun _=>x,fun k=>by omega⟩
theorem MV.c5{m:l8}(h:m.a8=5)(x:a2x V m.g8.toNat m.i4):MV N V P m:=⟨fun k=>by omega,fun k=>by omega,fun k=>by omega,fun k=>by omega,fun _=>x⟩
def f3N(P:PR)(b:Int)(k:Nat)(e:m4):PR:=fun c s f=>P c s f\/(c=b/\s=k/\f=e)
theorem d4x{id q:Int}(hid:D3 id)(hq:D3 q)(h:(a03 id)[q.toNat]?=some true):q=id:=by
 unfold D3 at hid hq;obtain rfl|rfl|rfl:id=0\/id=1\/id=2:=by omega
 all_goals obtain rfl|rfl|rfl:q=0\/q=1\/q=2:=by omega
 all_goals first|rfl|(exact absurd h (by decide))
theorem PX.put(h:PX N V P M)(hi:D3 i)(hph:(N i).d8=2){q:List m4}{e:m4}(hn:a2p (N i) e){a:z0}(hc:K5 (N i).Acc (N i).a7 ((N i).a5.length:Int) e=some a)(hni:NI {N i with f0:=q,Acc:=a,d8:=3,d6:=e,a6:=a03 (N i).Id}):PX (upd N i {N i with f0:=q,Acc:=a,d8:=3,d6:=e,a6:=a03 (N i).Id}) (a82 V i (N i).a5.length (N i).a7 e) (f3N P (N i).a7 (N i).a5.length e) M:=by
 obtain ⟨k,hk0,hk,h1,h2,h3,h4,he,c1,c2⟩:=c7N h hi hc;obtain rfl:k=(N i).a5.length:=by omega
 obtain ⟨l1,l2⟩:=(h.ld i hi).l2 hph;have hown:=(h.ni i hi).1.ld.own (by omega);have hid:=(h.ni i hi).2;have hbs:=(h.ld i hi).bs (by omega);generalize hn':({N i with f0:=q,Acc:=a,d8:=3,d6:=e,a6:=a03 (N i).Id}:j6)=n' at hni ⊢;have f1:n'.Acc=a:=by rw [<-hn']
 have f2:n'.a5=(N i).a5:=by rw [<-hn']
 have f3:n'.a7=(N i).a7:=by rw [<-hn']
 have f4:n'.i0=(N i).i0:=by rw [<-hn']
 have f5:n'.d8=3:=by rw [<-hn']
 have f6:n'.d6=e:=by rw [<-hn']
 have f7:n'.a6=a03 i:=by rw [<-hn'];exact congrArg a03 hid
 have f8:n'.Id=i:=by rw [<-hn'];exact hid
 have hpr:(N i).Acc.g9<=n'.Acc.g9:=by rw [f1,h4];exact h3
 have hcov:∀a,Cov N V (N i) a->Cov (upd N i n') (a82 V i (N i).a5.length (N i).a7 e) n' a:=fun a c=>by
  refine ⟨by rw [f3];exact f6d c.pr (a8a hpr a),?_⟩;rw [f2,f3,f4];exact fun s b f hs hb v=>c.cv s b f hs hb (c0J h3 c.pr hb v)
 have hsf:∀a,Cov N V (N i) a->Sf (upd N i n') (a82 V i (N i).a5.length (N i).a7 e) (N i).a7 (N i).a5.length e a:=fun a c=>by
  refine ⟨f6d c.pr (a8a hpr a),fun b' e' hb v => ?_⟩;have v:=c0J h3 c.pr hb v;obtain ⟨w,w1,w2⟩:=c.cv _ _ _ (f5y _) hb v;have hb1:=(h.vp _ _ _ _ v).2.2.1;have hw:w.a7>0:=by omega
  have hno:∀{p:Prop},(∀v∈(N i).i0.drop (N i).a5.length,¬v.a7>0)->p:=fun hn=>by
   refine absurd hw (hn w ?_);exact f5w (i:=0) (by rw [f6K];exact w1)
  cases hn with
  | best u hu hub =>
   rw [w1] at hu;injection hu with hu;subst hu;obtain ⟨y1,q1,y2⟩:=hbs _ _ w1 hw;exact ⟨w.a7,q1,w2,y1,.inl y2⟩
  | gap u hu hub hn=>exact absurd hw (hn w w1)
  | want hb hk hn=>exact hno hn
  | queue e he hk hn=>exact hno hn
 refine h.step hi ⟨hni,f8,hpr,by rw [f2];exact f5y _,fun _ _ _ _ v=>.inl v,fun q s c f v => ?_,fun _ _ _ p=>.inl p,fun b s f p => ?_,by rw [f1];exact c1,by rw [f1];exact c2,?_,by rw [f2];exact fun s e hk=>(h.kn i s e hi hk).mono fun _ _ _ _ v=>.inl v,fun m hm=>.inl hm⟩
 ·rcases v with v|⟨rfl,rfl,rfl,rfl⟩
  ·exact .inl v
  ·exact .inr ⟨rfl,h3,h1,by rw [f1,h4];exact f5H _,.inr ⟨rfl,rfl,rfl⟩⟩
 ·rcases p with p|⟨rfl,rfl,rfl⟩
  ·exact .inl p
  ·refine .inr ⟨f3.symm,f5,fun e' p' => ?_,l2.imp fun a _=>hsf a⟩;rcases p' with p'|⟨_,_,x⟩
   ·exact absurd (l1 _ _ p') (by omega)
   ·exact x
 ·refine ⟨fun _ => ?_,fun q=>by omega,fun q=>by omega,fun _ => ?_⟩
  ·rw [f3,f4];intro s v hs hv;obtain ⟨x1,q1,x2⟩:=hbs s v hs hv;exact ⟨x1,q1,.inl x2⟩
  ·rw [f2,f3,f6,f7];refine ⟨.inr ⟨rfl,rfl,rfl⟩,fun s f p => ?_,l2.imp fun a _=>hcov a,fun q hq hm => ?_⟩
   ·rcases p with p|⟨_,rfl,_⟩
    ·exact Nat.le_of_lt (l1 _ _ p)
    ·exact f5y _
   ·rw [d4x hi hq hm];exact .inr ⟨rfl,rfl,rfl,rfl⟩
theorem PX.queue(h:PX N V P M)(hi:D3 i){q:List m4}(hl:q.length<=4)(hm:∀e∈q,z5 e=true/\e.i7=false):PX (upd N i {N i with f0:=q}) V P M :=
 h.keep hi ((h.ni i hi).1.queue hl hm) (h.ni i hi).2 (f5H _) rfl rfl rfl rfl rfl rfl rfl rfl
theorem PX.propose(h:PX N V P M)(hi:D3 i):L2 N M i (M1 (N i)).1 (M1 (N i)).2:=by
 have hr:=a99 (h.ni i hi).1;unfold M1 at hr ⊢;cases hc:(N i).d8 != 2||decide (40<=(N i).a5.length)
 case true=>exact .same h
 rw [hc] at hr;simp only [cond_false] at hr ⊢;simp only [f6s,bne_eq_false_iff_eq,decide_eq_false_iff_not] at hc;obtain ⟨q,hq,hql,hqm,hqe⟩:=b01 (N i);cases hx:a0D (N i) with
 | mk x o =>
 rw [hx] at hr hq hqe;have hq:x={N i with f0:=q}:=hq;subst hq;have hQ:PX (upd N i {N i with f0:=q}) V P M:=h.queue hi (by have:=(h.ni i hi).1.ql;omega) fun e he=>(h.ni i hi).1.qs e (hqm e he)
 cases o with
 | none=>exact ⟨V,P,by rw [a7G];exact hQ⟩
 | some e =>
  simp only [a6M] at hr ⊢;cases hcs:K5 (N i).Acc (N i).a7 ((N i).a5.length:Int) e with
  | none =>
   have:=hQ.down hi;rw [S9,a3d] at this;exact ⟨V,P,by rw [a7G];exact this⟩
  | some a =>
   rw [hcs] at hr;have hid:=(h.ni i hi).2;refine ⟨_,_,PX.send (h.put hi hc.1 (hqe e rfl) hcs hr.ni) fun m hm=>⟨hr.ms m hm,?_⟩⟩;obtain ⟨t,_,_,_,rfl⟩:=a3y (h.ni i hi).1.id hm;exact .c3 rfl (.inr ⟨rfl,rfl,rfl⟩)
theorem L2.then{n1 n2:j6}{l1 l2:List l8}(h1:L2 N M i n1 l1)(h2:∀V P,PX (upd N i n1) V P (snd M l1)->L2 (upd N i n1) (snd M l1) i n2 l2):L2 N M i n2 (l1++l2):=by
 obtain ⟨V1,P1,h1⟩:=h1;obtain ⟨V2,P2,h2⟩:=h2 V1 P1 h1;rw [a3d,d4N] at h2;exact ⟨V2,P2,h2⟩
theorem PX.learn(h:PX N V P M)(hi:D3 i){e:m4}(he:z5 e=true)(hl:(N i).a5.length<40)(hc:a2x V (N i).a5.length e):L2 N M i (Y2 (N i) e).1 (Y2 (N i) e).2.1:=by
 have h1:=h.know hi he hl hc;have h2:=h1.free hi;rw [S9,a3d] at h2;have h3:=h2.propose hi;rw [S9] at h3;obtain ⟨V',P',h3⟩:=h3;rw [a3d] at h3;exact ⟨V',P',h3⟩
theorem PX.rise(h:PX N V P M)(hi:D3 i):L2 N M i (Y3 (N i)).1 (Y3 (N i)).2:=by
 have hni:=(h.ni i hi).1;have hid:=(h.ni i hi).2;have hr:=b4e hni;unfold Y3 at hr ⊢;cases hd:decide (M0 (N i).Acc.g9 (N i).Id<0);case true=>exact .same h
 rw [hd] at hr;simp only [cond_false] at hr ⊢;simp only [decide_eq_false_iff_not] at hd;rcases b61 hni.pr hni.id with q|⟨q1,q2,q3,q4⟩
 ·omega
 generalize M0 (N i).Acc.g9 (N i).Id=b at *;have hld:∀(n':j6),n'.d8=1->n'.a7=b->n'.a5=(N i).a5->n'.i0=(N i).Acc.a6->n'.c9=a03 i->n'.Acc.g9=b->LD (upd N i n') V P n':=by
  intro n' e1 e2 e3 e4 e5 e6;refine ⟨fun _ => ?_,fun _=>⟨?_,?_⟩,fun q=>by omega,fun q=>by omega⟩
  ·rw [e2,e4];intro s v hs hv;have hv':=h.cur i s v hi hs hv;exact ⟨by have:=(h.vp _ _ _ _ hv').2.2.2;omega,i,hv'⟩
  ·rw [e2];intro s e p;have:=(h.po _ _ _ p).2;rw [q4,hid] at this;omega
  ·rw [e5];intro q hq hm;rw [d4x hi hq hm];refine ⟨by rw [e2,S9,e6];exact f5H _,?_⟩;rw [e4];exact fun s b e _ _ v=>h.max i s b e v
 refine ⟨V,P,PX.send (h.quiet hi hr.ni (hr.id.trans hid) (Int.le_of_lt q1) rfl rfl (hld _ rfl rfl rfl rfl (by rw [hid]) rfl)) fun m hm=>⟨hr.ms m hm,?_⟩⟩;obtain ⟨t,_,_,_,rfl⟩:=a3y hni.id hm;refine .c1 rfl ⟨q4,?_⟩;simp only [hid,S9];exact f5H _
theorem d2m{l:List Bool}(hl:l.length=3)(h:M8 l=true):Quo fun q=>l[q.toNat]?=some true:=by
 match l,hl with
 | [a,b,c],_ =>
  cases a<;>cases b<;>cases c<;>first|(exact absurd h (by decide))|exact ⟨0,1,by unfold D3;omega,by unfold D3;omega,by decide,rfl,rfl⟩|exact ⟨0,2,by unfold D3;omega,by unfold D3;omega,by decide,rfl,rfl⟩|exact ⟨1,2,by unfold D3;omega,by unfold D3;omega,by decide,rfl,rfl⟩
theorem d33{l:List Bool}{f q:Int}(hf:D3 f)(hq:D3 q)(h:(l.set f.toNat true)[q.toNat]?=some true):q=f\/l[q.toNat]?=some true:=by
 unfold D3 at hf hq;rw [f6H] at h;split at h
 ·left;omega
 ·exact .inr h
end
section
variable {N:Int->j6} {V:VR} {P:PR} {M:MS} {i:Int} {m:l8}
theorem L2.reply(h:PX N V P M){r:l8}(h1:MI r)(h2:r.a8=6\/r.a8=7\/r.a8=8):L2 N M i (N i) [r] :=
 ⟨V,P,by rw [a7A];exact h.send fun x hx=>by rw [f5p.1 hx];exact ⟨h1,.other h2⟩⟩
theorem PX.tPrepare(h:PX N V P M)(hi:D3 i)(hm:M m)(hto:m.To=i)(hk:m.a8=1):L2 N M i (a1v (N i) m).1 (a1v (N i) m).2:=by
 obtain ⟨mi,mv⟩:=h.ms m hm;obtain ⟨hni,hid⟩:=h.ni i hi;have hr:=d1V hni mi hk;unfold a1v at hr ⊢;cases hp:I3 (N i).Acc m.a7 with
 | none =>
  rw [hp] at hr;exact .reply h (hr.ms _ (f5p.2 rfl)) (.inl rfl)
 | some x =>
  rw [hp] at hr;have h1:=(h.promise hi hp).yield hi m.a7;rw [S9,a3d] at h1;obtain ⟨rfl,b1,b2,b3⟩:=a4m hp;refine ⟨V,P,h1.send fun r hr'=>⟨hr.ms r hr',?_⟩⟩;rw [f5p.1 hr'];obtain ⟨s1,s2⟩:=mv.k1 hk;have hacc:(N0 {N i with Acc:=⟨m.a7,(N i).Acc.a6⟩} m.a7).Acc=⟨m.a7,(N i).Acc.a6⟩:=c98 _ _;have hne:m.c9≠i:=fun q=>mi.ne (by rw [q,hto])
  have hsl:=mi.sl;refine .c2 rfl ⟨?_,?_,?_,?_⟩
  ·show m.g8<=((upd N i _ m.c9).a5.length:Int)
   rw [b1t _ hne];exact s2
  ·show m.a7<=(upd N i _ m.To).Acc.g9
   rw [hto,S9,hacc];exact f5H _
  ·show ∀s b e,m.g8.toNat<=s->b<m.a7->V m.To s b e->∃v,((N i).Acc.a6.drop m.g8.toNat)[s-m.g8.toNat]?=some v/\b<=v.a7
   rw [hto];intro s b e hs _ v;obtain ⟨w,w1,w2⟩:=h.max _ _ _ _ v;exact ⟨w,by rw [f6K,show m.g8.toNat+(s-m.g8.toNat)=s by omega];exact w1,w2⟩
  ·show ∀k v,((N i).Acc.a6.drop m.g8.toNat)[k]?=some v->v.a7>0->v.a7<=m.a7/\V m.To (m.g8.toNat+k) v.a7 v.i4
   rw [hto];intro k v hk hv;rw [f6K] at hk;have hv':=h.cur i _ v hi hk hv;exact ⟨f6d (h.vp _ _ _ _ hv').2.2.2 b3,hv'⟩
theorem PX.tAccept(h:PX N V P M)(hi:D3 i)(hm:M m)(hto:m.To=i)(hk:m.a8=3):L2 N M i (a1D (N i) m).1 (a1D (N i) m).2:=by
 obtain ⟨mi,mv⟩:=h.ms m hm;obtain ⟨hni,hid⟩:=h.ni i hi;have hr:=d5G hni mi hk;unfold a1D at hr ⊢;cases hp:K5 (N i).Acc m.a7 m.g8 m.i4 with
 | none =>
  rw [hp] at hr;exact .reply h (hr.ms _ (f5p.2 rfl)) (.inl rfl)
 | some x =>
  rw [hp] at hr;have h1:=(h.vote hi hp (mv.k3 hk)).yield hi m.a7;rw [S9,a3d] at h1;refine ⟨_,P,h1.send fun r hr'=>⟨hr.ms r hr',?_⟩⟩;rw [f5p.1 hr'];refine .c4 rfl ⟨m.i4,.inr ⟨hto,rfl,rfl,rfl⟩⟩
theorem d4H{a b:List m7}{s:Nat}{v:m7}(h:a[s]?=some v\/b[s]?=some v):∃w,(D5 a b)[s]?=some w/\v.a7<=w.a7:=by
 rw [b1c];cases ha:a[s]? with
 | none =>
  rw [ha] at h;rcases h with h|h
  ·cases h
  ·rw [h];exact ⟨v,rfl,f5H _⟩
 | some x =>
  cases hb:b[s]? with
  | none =>
   rw [ha,hb] at h;rcases h with h|h
   ·injection h with h;subst h;exact ⟨x,rfl,f5H _⟩
   ·cases h
  | some y =>
   rw [ha,hb] at h;simp only;cases hd:decide (y.a7>x.a7)
   ·refine ⟨x,rfl,?_⟩;simp only [decide_eq_false_iff_not] at hd;rcases h with h|h
    ·injection h with h;subst h;exact f5H _
    ·injection h with h;subst h;omega
   ·refine ⟨y,rfl,?_⟩;simp only [decide_eq_true_eq] at hd;rcases h with h|h
    ·injection h with h;subst h;omega
    ·injection h with h;subst h;exact f5H _
theorem e9D{a b:List m7}{s:Nat}{w:m7}(h:(D5 a b)[s]?=some w):a[s]?=some w\/b[s]?=some w:=by
 rw [b1c] at h;cases ha:a[s]? with
 | none =>
  rw [ha] at h;cases hb:b[s]? with
  | none=>rw [hb] at h;cases h
  | some y=>rw [hb] at h;exact .inr h
 | some x =>
  rw [ha] at h;cases hb:b[s]? with
  | none=>rw [hb] at h;exact .inl h
  | some y =>
   rw [hb] at h;simp only at h;cases hd:decide (y.a7>x.a7)
   ·rw [hd] at h;exact .inl h
   ·rw [hd] at h;exact .inr h
theorem e2x{vs:List m7}{k s:Nat}{v:m7}(h:(f5k k v0++vs)[s]?=some v)(hv:v.a7>0):k<=s/\vs[s-k]?=some v:=by
 rw [f7m] at h;split at h
 ·rw [List.getElem?_replicate] at h;split at h
  ·injection h with h;subst h;exact absurd hv (by decide)
  ·cases h
 ·rename_i hge;rw [f7l] at h hge;exact ⟨by omega,h⟩
theorem PX.tPromise(h:PX N V P M)(hi:D3 i)(hm:M m)(hto:m.To=i)(hk:m.a8=2):L2 N M i (a1z (N i) m).1 (a1z (N i) m).2:=by
 obtain ⟨mi,mv⟩:=h.ms m hm;obtain ⟨hni,hid⟩:=h.ni i hi;have hr:=c2b hni mi hk;have hsl:=mi.sl;have hfr:D3 m.c9:=mi.fr;obtain ⟨s1,s2,s3,s4⟩:=mv.k2 hk;rw [hto] at s1;unfold a1z at hr ⊢;cases hc:(N i).d8 != 1||m.a7 != (N i).a7
 case true=>exact .same h
 rw [hc] at hr;simp only [cond_false] at hr ⊢;simp only [f6s,bne_eq_false_iff_eq] at hc;obtain ⟨hp1,hbal⟩:=hc;have hld:=h.ld i hi;obtain ⟨l1,l2⟩:=hld.l1 hp1;have hfl:(N i).c9.length=3:=by
  rcases hni.ld with q|q|q|q
  ·omega
  ·exact q.2.2.1
  all_goals exact absurd q.1 (by omega)
 have hkl:m.g8.toNat<=(N i).a5.length:=by omega
 have hbs:∀s v,(D5 (N i).i0 (f5k m.g8.toNat v0++m.a6))[s]?=some v->v.a7>0->v.a7<(N i).a7/\∃q,V q s v.a7 v.i4:=by
  intro s v hs hv;rcases e9D hs with q|q
  ·exact hld.bs (by omega) s v q hv
  ·obtain ⟨g1,g2⟩:=e2x q hv;obtain ⟨g3,g4⟩:=s4 _ v g2 hv;rw [show m.g8.toNat+(s-m.g8.toNat)=s by omega] at g4;refine ⟨?_,_,g4⟩;have hpp:=(h.vp _ _ _ _ g4).2.1;rcases Int.lt_or_le v.a7 (N i).a7 with q|q
   ·exact q
   ·exact absurd (show P (N i).a7 s v.i4 by rw [show (N i).a7=v.a7 by omega];exact hpp) (l1 _ _)
 have hcov:∀(n':j6),n'.Acc=(N i).Acc->n'.a7=(N i).a7->n'.a5=(N i).a5->n'.i0=D5 (N i).i0 (f5k m.g8.toNat v0++m.a6)->∀q,D3 q->((N i).c9.set m.c9.toNat true)[q.toNat]?=some true->Cov (upd N i n') V n' q:=by
  intro n' e0 e1 e2 e3 q hq hf;have hpr:∀q,(N q).Acc.g9<=(upd N i n' q).Acc.g9:=a8a (by rw [e0];exact f5H _)
  rcases d33 hfr hq hf with rfl|hf
  ·refine ⟨by rw [e1,<-hbal];exact f6d s2 (hpr _),?_⟩;rw [e1,e2,e3];intro s b e hs hb v;obtain ⟨w,w1,w2⟩:=s3 s b e (by omega) (by rw [hbal];exact hb) v;have hw:(f5k m.g8.toNat v0++m.a6)[s]?=some w:=by
    rw [f5A (by rw [f7l];omega),f7l];exact w1
   obtain ⟨u,u1,u2⟩:=d4H (a:=(N i).i0) (.inr hw);exact ⟨u,u1,by omega⟩
  ·have c:=l2 q hq hf;refine ⟨by rw [e1];exact f6d c.pr (hpr _),?_⟩;rw [e1,e2,e3];intro s b e hs hb v;obtain ⟨w,w1,w2⟩:=c.cv s b e hs hb v;obtain ⟨u,u1,u2⟩:=d4H (b:=f5k m.g8.toNat v0++m.a6) (.inl w1);exact ⟨u,u1,by omega⟩
 cases htw:M8 ((N i).c9.set m.c9.toNat true)
 ·rw [htw] at hr;simp only [cond_false] at hr ⊢;refine ⟨V,P,by rw [a7G];exact h.quiet hi hr.ni hid (f5H _) rfl rfl ⟨fun _=>hbs,fun _=>⟨l1,fun q hq hf=>hcov _ (by rfl) (by rfl) (by rfl) (by rfl) q hq hf⟩,fun q=>absurd (hp1.symm.trans q) (by decide),fun q=>absurd (hp1.symm.trans q) (by decide)⟩⟩
 ·simp only [cond_true];have hq:=d2m (by rw [f6B];exact hfl) htw;have hown:=hni.ld.own (by omega);have hmv:m.a6.length<=40/\(∀v∈m.a6,VI v)/\m.g8+m.a6.length<=40:=by
   rcases mi.kd with q|q|q|q|q|q|q
   ·omega
   ·exact ⟨q.2.2.2.1.1,q.2.2.2.1.2,q.2.2.2.2⟩
   all_goals exact absurd q.1 (by omega)
  have hquiet:(N i).d6=zE/\(N i).a6=[]:=by
   rcases hni.ld with q|q|q|q
   ·omega
   ·exact ⟨q.2.2.2.2.1,q.2.2.2.2.2⟩
   all_goals exact absurd q.1 (by omega)
  have hni2:NI {N i with c9:=[],i0:=D5 (N i).i0 (f5k m.g8.toNat v0++m.a6),d8:=2}:=by
   refine ⟨hni.id,hni.pr,hni.vl,hni.vs,hni.kl,hni.ks,hni.sq,hni.ql,hni.qs,.inr (.inr (.inl ⟨rfl,⟨hown.b1,hown.b2,hown.mod,hown.pr,?_,?_⟩,rfl,hquiet.1,hquiet.2⟩)),hni.wt⟩
   ·have hbl:=hown.bl;show (D5 _ _).length<=40
    rw [a8P,f5u,f7l];omega
   ·intro v hv;rcases a9C hv with q|q
    ·exact hown.bs v q
    ·rcases List.mem_append.1 q with q|q
     ·rw [(f5Z.1 q).2];exact .inl rfl
     ·exact hmv.2.1 v q
  have h2:PX (upd N i {N i with c9:=[],i0:=D5 (N i).i0 (f5k m.g8.toNat v0++m.a6),d8:=2}) V P M :=
   h.quiet hi hni2 hid (f5H _) rfl rfl ⟨fun _=>hbs,fun q=>absurd (show (2:Int)=1 from q) (by decide),fun _=>⟨fun s e p=>absurd p (l1 s e),hq.imp fun q hq hf=>hcov _ (by rfl) (by rfl) (by rfl) (by rfl) q hq hf⟩,fun q=>absurd (show (2:Int)=3 from q) (by decide)⟩
  have h3:=h2.propose hi;rw [S9] at h3;obtain ⟨V',P',h3⟩:=h3;rw [a3d] at h3;exact ⟨V',P',h3⟩
theorem PX.tAccepted(h:PX N V P M)(hi:D3 i)(hm:M m)(hto:m.To=i)(hk:m.a8=4):L2 N M i (a2y (N i) m).1 (a2y (N i) m).2.1:=by
 obtain ⟨mi,mv⟩:=h.ms m hm;obtain ⟨hni,hid⟩:=h.ni i hi;have hr:=d5N hni mi;have hfr:D3 m.c9:=mi.fr;obtain ⟨e',ve⟩:=mv.k4 hk;unfold a2y at hr ⊢;cases hc:(N i).d8 != 3||(m.a7 != (N i).a7||m.g8 != ((N i).a5.length:Int))
 case true=>exact .same h
 rw [hc] at hr;simp only [cond_false] at hr ⊢;simp only [f6s,bne_eq_false_iff_eq] at hc;obtain ⟨hp3,hbal,hsl⟩:=hc;rw [hsl,hbal,f5I] at ve;have hld:=h.ld i hi;obtain ⟨l1,l2,l3,l4⟩:=hld.l3 hp3;have he':e'=(N i).d6:=h.pu _ _ _ _ (h.vp _ _ _ _ ve).2.1 l1;subst he';have hlead:Own (N i)/\(N i).c9=[]/\z5 (N i).d6=true/\(N i).a6.length=3/\(N i).a6[(N i).Id.toNat]?=some true/\(N i).a5.length<40:=by
  rcases hni.ld with q|q|q|q
  ·omega
  ·omega
  ·omega
  ·exact q.2
 obtain ⟨o1,o2,o3,o4,o5,o6⟩:=hlead;have hmk:∀q,D3 q->((N i).a6.set m.c9.toNat true)[q.toNat]?=some true->V q (N i).a5.length (N i).a7 (N i).d6:=by
  intro q hq hf;rcases d33 hfr hq hf with rfl|hf
  ·exact ve
  ·exact l4 q hq hf
 have hni2:NI {N i with a6:=(N i).a6.set m.c9.toNat true} :=
  ⟨hni.id,hni.pr,hni.vl,hni.vs,hni.kl,hni.ks,hni.sq,hni.ql,hni.qs,.inr (.inr (.inr ⟨hp3,o1,o2,o3,by simpa using o4,by
   show ((N i).a6.set m.c9.toNat true)[(N i).Id.toNat]?=some true
   rw [f6H];split
   ·rename_i hq;have:=hni.id;rw [if_pos (by omega)]
   ·exact o5,o6⟩)),hni.wt⟩
 have h2:PX (upd N i {N i with a6:=(N i).a6.set m.c9.toNat true}) V P M:=by
  refine h.quiet hi hni2 hid (f5H _) rfl rfl ⟨fun h0=>hld.bs h0,fun q=>absurd (hp3.symm.trans q) (by decide),fun q=>absurd (hp3.symm.trans q) (by decide),fun _=>⟨l1,l2,l3.imp fun a _ c=>⟨f6d c.pr (a8a (n':={N i with a6:=(N i).a6.set m.c9.toNat true}) (f5H _) a),c.cv⟩,hmk⟩⟩
 cases htw:M8 ((N i).a6.set m.c9.toNat true)
 ·simp only [cond_false];exact ⟨V,P,by rw [a7G];exact h2⟩
 ·rw [htw] at hr;simp only [cond_true] at hr ⊢;have hq:=d2m (by rw [f6B];exact o4) htw;have hch:a2x V (N i).a5.length (N i).d6:=by
   obtain ⟨a,b,ha,hb,hab,x,y⟩:=hq;exact ⟨(N i).a7,a,b,ha,hb,hab,hmk a ha x,hmk b hb y⟩
  refine L2.then (n1:={N i with a6:=(N i).a6.set m.c9.toNat true}) ⟨V,P,h2.send fun x hx=>⟨hr.ms x (f6G _ hx),?_⟩⟩ fun V2 P2 hp => ?_
  ·obtain ⟨t,_,_,_,rfl⟩:=a3y hni.id hx;exact .c5 rfl hch
  ·have h3:PX (upd N i {N i with a6:=(N i).a6.set m.c9.toNat true}) V P (snd M (I4 (N i).Id ⟨5,0,0,0,((N i).a5.length:Int),(N i).d6,[]⟩)):=h2.send fun x hx=>⟨hr.ms x (f6G _ hx),by
    obtain ⟨t,_,_,_,rfl⟩:=a3y hni.id hx;exact .c5 rfl hch⟩
   have h4:=h3.learn hi (e:=(N i).d6) o3 (by rw [S9];exact o6) (by rw [S9];exact hch);rw [S9] at h4;exact h4
theorem PX.tChosen(h:PX N V P M)(hi:D3 i)(hm:M m)(hto:m.To=i)(hk:m.a8=5):L2 N M i (a2A (N i) m).1 (a2A (N i) m).2.1:=by
 obtain ⟨mi,mv⟩:=h.ms m hm;obtain ⟨hni,hid⟩:=h.ni i hi;have hr:=d5w hni mi hk;have hch:=mv.k5 hk;have hsl:=mi.sl;have hkd:m.g8<40/\z5 m.i4=true:=by
  rcases mi.kd with q|q|q|q|q|q|q
  ·omega
  ·omega
  ·omega
  ·exact ⟨q.2.2.1,q.2.2.2.1⟩
  all_goals exact absurd q.1 (by omega)
 unfold a2A at hr ⊢;cases h1:decide (m.g8<((N i).a5.length:Int));case true=>exact .same h
 rw [h1] at hr;cases h2:decide (m.g8>((N i).a5.length:Int))
 ·simp only [cond_false];simp only [decide_eq_false_iff_not] at h1 h2;refine h.learn hi hkd.2 (by omega) ?_;rw [show (N i).a5.length=m.g8.toNat by omega];exact hch
 ·rw [h2] at hr;simp only [cond_false,cond_true] at hr ⊢;exact .reply h (hr.ms _ (f5p.2 rfl)) (.inr (.inr rfl))
theorem PX.tAsk(h:PX N V P M)(hi:D3 i)(hm:M m)(hto:m.To=i)(hk:m.a8=7):L2 N M i (a1w (N i) m).1 (a1w (N i) m).2:=by
 obtain ⟨mi,mv⟩:=h.ms m hm;obtain ⟨hni,hid⟩:=h.ni i hi;obtain ⟨e1,e2⟩:z5 m.i4=true/\m.i4.i7=false:=by
  rcases mi.kd with q|q|q|q|q|q|q
  ·omega
  ·omega
  ·omega
  ·omega
  ·omega
  ·exact ⟨q.2.2.2.1,q.2.2.2.2.1⟩
  ·omega
 unfold a1w;cases hc:(N i).d8==0||(decide (4<=(N i).f0.length)||M9 (N i).a5 m.i4.a0)
 case true=>exact .same h
 simp only [cond_false];simp only [f6s,decide_eq_false_iff_not] at hc;have h1:=h.queue hi (q:=(N i).f0++[m.i4]) (by rw [f5u,f6o];omega) (by
  intro e he;rcases List.mem_append.1 he with q|q
  ·exact hni.qs e q
  ·rw [f5p.1 q];exact ⟨e1,e2⟩)
 have h2:=h1.propose hi;rw [S9] at h2;obtain ⟨V',P',h2⟩:=h2;rw [a3d] at h2;exact ⟨V',P',h2⟩
theorem PX.tNeed(h:PX N V P M)(hi:D3 i)(hm:M m):L2 N M i (N i) (a4a (N i) m):=by
 obtain ⟨mi,mv⟩:=h.ms m hm;obtain ⟨hni,hid⟩:=h.ni i hi;have hr:=d1O hni mi;refine ⟨V,P,?_⟩;rw [a7A];refine h.send fun x hx=>⟨hr x hx,?_⟩
 unfold a4a at hx;obtain ⟨l,hl,hx⟩:=f6h.1 hx;obtain ⟨j,hj,rfl⟩:=List.mem_map.1 hl;unfold a1o at hx;cases hk:(N i).a5[m.g8.toNat+j]? with
 | none=>rw [hk] at hx;cases hx
 | some e =>
  rw [hk] at hx;rw [f5p.1 hx];refine .c5 rfl ?_;exact h.kn i _ e hi hk
theorem PX.tRefuse(h:PX N V P M)(hi:D3 i)(b:Int):L2 N M i (N0 {N i with Acc:=(I3 (N i).Acc b).getD (N i).Acc} b) []:=by
 refine ⟨V,P,?_⟩;rw [a7G];cases hp:I3 (N i).Acc b with
 | none=>exact h.yield hi b
 | some x =>
  have h1:=(h.promise hi hp).yield hi b;rw [S9,a3d] at h1;exact h1
theorem PX.take(h:PX N V P M)(hi:D3 i)(hm:M m)(hto:m.To=i):L2 N M i (W5 (N i) m).1 (W5 (N i) m).2.1:=by
 unfold W5;by_cases k1:m.a8=1
 ·rw [show (m.a8==1)=true by simpa using k1];exact h.tPrepare hi hm hto k1
 rw [show (m.a8==1)=false by simpa using k1];by_cases k2:m.a8=2
 ·rw [show (m.a8==2)=true by simpa using k2];exact h.tPromise hi hm hto k2
 rw [show (m.a8==2)=false by simpa using k2];by_cases k3:m.a8=3
 ·rw [show (m.a8==3)=true by simpa using k3];exact h.tAccept hi hm hto k3
 rw [show (m.a8==3)=false by simpa using k3];by_cases k4:m.a8=4
 ·rw [show (m.a8==4)=true by simpa using k4];exact h.tAccepted hi hm hto k4
 rw [show (m.a8==4)=false by simpa using k4];by_cases k5:m.a8=5
 ·rw [show (m.a8==5)=true by simpa using k5];exact h.tChosen hi hm hto k5
 rw [show (m.a8==5)=false by simpa using k5];by_cases k6:m.a8=6
 ·rw [show (m.a8==6)=true by simpa using k6];exact h.tRefuse hi m.a7
 rw [show (m.a8==6)=false by simpa using k6];by_cases k7:m.a8=7
 ·rw [show (m.a8==7)=true by simpa using k7];exact h.tAsk hi hm hto k7
 rw [show (m.a8==7)=false by simpa using k7];cases m.a8==8
 ·exact .same h
 ·exact h.tNeed hi hm
end
section
variable {N:Int->j6} {V:VR} {P:PR} {M:MS} {i:Int}
theorem L2.to{n1 n2:j6}{l:List l8}(h1:PX (upd N i n1) V P M)(h2:L2 (upd N i n1) M i n2 l):L2 N M i n2 l:=by
 obtain ⟨V',P',h2⟩:=h2;rw [a3d] at h2;exact ⟨V',P',h2⟩
theorem PX.ask(h:PX N V P M)(hi:D3 i){p:List n8}(hp:s9 p):L2 N M i (N4 (N i) p).1 (N4 (N i) p).2:=by
 obtain ⟨hni,hid⟩:=h.ni i hi;have hr:=b2o hni hp;rw [a2o] at hr ⊢;cases hc:M5 (N i) p;case false=>exact .same h
 rw [hc] at hr;have hn:=hni.asked hp hc;have h1:PX (upd N i (P5 (N i) p)) V P M:=h.keep hi hn hid (f5H _) rfl rfl rfl rfl rfl rfl rfl rfl;simp only [cond_true] at hr ⊢;cases h2:(N i).d8==2
 ·rw [h2] at hr;simp only [cond_false] at hr ⊢;refine .to h1 ⟨V,P,?_⟩;rw [a3d];refine h1.send fun x hx=>⟨hr.ms x hx,?_⟩
  cases h0:(N i).d8==0
  ·rw [h0] at hx;cases hx
  ·rw [h0] at hx;obtain ⟨t,_,_,_,rfl⟩:=a3y hni.id hx;exact .other (.inr (.inl rfl))
 ·simp only [cond_true];have h3:=h1.propose hi;rw [S9] at h3;exact .to h1 h3
theorem PX.retry(h:PX N V P M)(hi:D3 i):L2 N M i (V4 (N i)).1 (V4 (N i)).2:=by
 obtain ⟨hni,hid⟩:=h.ni i hi;have hr:=b26 hni;have hneed:∀x∈I4 (N i).Id ⟨8,0,0,0,((N i).a5.length:Int),zE,[]⟩,MV N V P x:=fun x hx=>by
  obtain ⟨t,_,_,_,rfl⟩:=a3y hni.id hx;exact .other (.inr (.inr rfl))
 have go:∀{l:List l8},(∀x∈I4 (N i).Id ⟨8,0,0,0,((N i).a5.length:Int),zE,[]⟩++l,MI x)->(∀x∈l,MV N V P x)->L2 N M i (N i) (I4 (N i).Id ⟨8,0,0,0,((N i).a5.length:Int),zE,[]⟩++l):=fun {l} hm hv =>
  ⟨V,P,by rw [a7A];exact h.send fun x hx=>⟨hm x hx,(List.mem_append.1 hx).elim (hneed x) (hv x)⟩⟩
 unfold V4 at hr ⊢;by_cases h1:(N i).d8=1
 ·rw [show ((N i).d8==1)=true by simpa using h1] at hr ⊢;refine go hr.ms fun x hx => ?_
  obtain ⟨t,_,_,_,rfl⟩:=a3y hni.id hx;exact .c1 rfl ⟨(hni.ld.own (by omega)).mod,by show _<=((N (N i).Id).a5.length:Int);rw [hid];exact f5H _⟩
 rw [show ((N i).d8==1)=false by simpa using h1] at hr ⊢;by_cases h2:(N i).d8=2
 ·rw [show ((N i).d8==2)=true by simpa using h2] at hr ⊢;simp only [cond_true,cond_false] at hr ⊢;have hs:PX N V P (snd M (I4 (N i).Id ⟨8,0,0,0,((N i).a5.length:Int),zE,[]⟩)):=h.send fun x hx=>⟨hr.ms x (f6G _ hx),hneed x hx⟩
  obtain ⟨V',P',h3⟩:=hs.propose hi;rw [d4N] at h3;exact ⟨V',P',h3⟩
 rw [show ((N i).d8==2)=false by simpa using h2] at hr ⊢;by_cases h3:(N i).d8=3
 ·rw [show ((N i).d8==3)=true by simpa using h3] at hr ⊢;refine go hr.ms fun x hx => ?_
  obtain ⟨t,_,_,_,rfl⟩:=a3y hni.id hx;exact .c3 rfl ((h.ld i hi).l3 h3).1
 rw [show ((N i).d8==3)=false by simpa using h3] at hr ⊢;cases hb:(N i).i9
 ·rw [hb] at hr;refine ⟨V,P,?_⟩;show PX (upd N i (N i)) V P _
  rw [a7A];exact h.send fun x hx=>⟨hr.ms x hx,hneed x hx⟩
 ·rw [hb] at hr;refine go hr.ms fun x hx => ?_
  obtain ⟨t,_,_,_,rfl⟩:=a3y hni.id hx;exact .other (.inr (.inl rfl))
theorem PX.fall(h:PX N V P M)(hi:D3 i):L2 N M i (a1p (N i)) [] :=
 ⟨V,P,by rw [a7G];exact h.quiet hi (h.ni i hi).1.fall (h.ni i hi).2 (f5H _) rfl rfl (.none rfl)⟩
end
def w9(w:m5)(j:Int):j6:=if 0<=j/\j<=2 then I9 w j else C5 0
def PW(w:m5):Prop := ∃V P M,PX (w9 w) V P M/\∀m∈w.c8,M m
theorem a3t{w:m5}{j:Int}(h:D3 j):w9 w j=I9 w j:=if_pos h
theorem e9u{w w':m5}(h:w'.a9=w.a9):w9 w'=w9 w:=by
 funext j;unfold w9 I9;rw [h]
theorem e97{w:m5}(h:WI w){i:Nat}(hi:i<3)(n:j6){w':m5}(hw:w'.a9=w.a9.set i n):w9 w'=upd (w9 w) (i:Int) n:=by
 have hl:=h.nl;funext j
 unfold w9 upd I9;rw [hw];show _=if j=(i:Int) then n else if 0<=j/\j<=2 then w.a9.getD j.toNat (C5 0) else C5 0
 by_cases hj:0<=j/\j<=2
 ·rw [if_pos hj,if_pos hj];by_cases q:j=(i:Int)
  ·subst q;rw [if_pos rfl,f5I,f5x,f6l (by omega)];rfl
  ·rw [if_neg q,f5x,f5D (by omega),<-f5x]
 ·rw [if_neg hj,if_neg hj,if_neg (by omega)]
theorem PW.put{w w':m5}(h:WI w){i:Nat}(hi:i<3){n':j6}{l:List l8}{V:VR}{P:PR}{M:MS}(hM:∀m∈w.c8,M m)(hg:L2 (w9 w) M (i:Int) n' l)(hn:w'.a9=w.a9.set i n')(hm:∀m∈w'.c8,m∈w.c8\/m∈l):PW w':=by
 obtain ⟨V',P',h'⟩:=hg;refine ⟨V',P',_,by rw [e97 h hi n' hn];exact h',fun m hm' => ?_⟩;exact (hm m hm').imp (hM m) id
theorem PW.less{w w':m5}(h:PW w)(hn:w'.a9=w.a9)(hm:∀m∈w'.c8,m∈w.c8):PW w':=by
 obtain ⟨V,P,M,h1,h2⟩:=h;exact ⟨V,P,M,by rw [e9u hn];exact h1,fun m q=>h2 m (hm m q)⟩
theorem a2l{w:m5}{l:List l8}{m:l8}(h:m∈(a0M w l).c8):m∈w.c8\/m∈l :=
 (List.mem_append.1 h).imp id f6k
theorem b5v{w:m5}{i:Int}{m:l8}(h:m∈(a28 w i).c8):m∈w.c8 :=
 (List.mem_append.1 h).elim f6k f6j
end
end Go.Proofs.YtobfemcdchmgeaaGreat
