/- Abstract values and states of the program, functions of the program and what their calls come to, and what follows from it: part 5 of the text that the law leans on; long names are written short. -/
import Derived.Test.YtcnjppbopdpnjaaGreatP4
set_option linter.unusedVariables false
set_option linter.unusedSimpArgs false
set_option linter.unnecessarySimpa false
namespace Go.Proofs.YtcnjppbopdpnjaaGreat
open Go
theorem d3T {m:a8} (h:a1V m):b4f m=some (a1O m):=by
  unfold b4f a1O
  have he:=h.2.2.2.2.2.1
  have hj2:b3E m=a9M m (a1D m.Entry zE) (q9 m.Entry&&decide (m.Slot<40)):=by
    unfold b3E
    simp only [b7d he,a2q he.f,Option.bind_some]
    cases q9 m.Entry<;>rfl
  have hj : ∀ nv:Bool,nv=((m.Votes.length:Int)==0)→(m.Kind==2||nv)=true→a9M m (a1D m.Entry zE) (q9 m.Entry&&decide (m.Slot<40))=some (a50 m):=by
    intro nv hnv hk
    unfold a9M a50
    simp only [a7N,b6M h.2.2.2.2.2.2,a2q he.f,Option.bind_some,a6W]
    rw [← hnv]
    cases h1:m.Kind==1
    case true =>
      have:(m.Kind==2)=false:=by
        simp only [beq_iff_eq] at h1
        rw [h1]; rfl
      rw [this,Bool.false_or] at hk
      simp only [cond_true,hk,Bool.and_true]
    cases h2:m.Kind==2
    case true =>
      cases h4:m.Kind==4
      · rfl
      · simp only [beq_iff_eq] at h2 h4
        omega
    rw [h2,Bool.false_or] at hk
    subst hk
    cases h3:m.Kind==3
    case true =>
      cases h4:m.Kind==4
      · simp only [cond_true,cond_false,Bool.and_true]
        cases j7 m.Bal 1 3000<;>cases q9 m.Entry<;>cases decide (m.Slot<40)<;>rfl
      · simp only [beq_iff_eq] at h3 h4
        omega
    cases h4:m.Kind==4
    case true=>simp only [cond_true,cond_false,Bool.and_true]
    simp only [cond_false]
    cases m.Kind==5
    case true =>
      simp only [cond_true,Bool.and_true]
      cases m.Bal==0<;>cases q9 m.Entry<;>cases decide (m.Slot<40)<;>rfl
    simp only [cond_false]
    cases m.Kind==6
    case true =>
      simp only [cond_true,Bool.and_true]
      cases j7 m.Bal 1 3000<;>cases a1D m.Entry zE<;>cases m.Slot==0<;>rfl
    cases m.Kind==7<;>cases m.Kind==8<;>simp only [cond_true,cond_false,Bool.and_true,Bool.true_and,Bool.false_and]
  rw [hj2,b65]
  cases j7 m.From 0 2
  · rfl
  simp only [cond_true,Bool.true_and]
  rw [b65]
  cases j7 m.To 0 2
  · rfl
  simp only [cond_true,Bool.true_and]
  cases m.From==m.To
  case true=>rfl
  simp only [cond_false,Bool.not_false,Bool.true_and]
  rw [rng]
  cases j7 m.Slot 0 40
  · rfl
  simp only [cond_true,Bool.true_and]
  rw [c9p]
  cases h2:m.Kind==2
  · rw [show (m.Kind != 2)=true from by rw [bne,h2]; rfl]
    cases hv:((m.Votes.length:Int)==0)
    · show some false=_
      have:a50 m=false:=by
        unfold a50
        rw [h2,hv]
        simp
      rw [this]
    · exact hj true hv.symm (by simp)
  · rw [show (m.Kind != 2)=false from by rw [bne,h2]; rfl]
    exact hj _ rfl (by rw [h2]; rfl)
def Z3 (t:e9):Bool:=j7 t.Node 0 2&&((j7 t.Req.Who 0 2&&j7 t.Req.Seq 1 1000)&&((t.Req.Who==t.Node)&&(j7 t.Code 0 4&&j7 t.Val (-1000000) 1000000)))
theorem d8n (t:e9):b1n t=some (Z3 t):=by
  unfold b1n Z3
  simp only [b5H,a4g,Option.bind_some,a6W]
  have e1:j7 t.Node 0 2=(decide (t.Node≥0)&&decide (t.Node<3)):=by
    unfold j7
    by_cases h1:t.Node≥0<;>by_cases h2:t.Node<3<;>simp [h1,h2]<;>omega
  have e2:j7 t.Code 0 4=(decide (t.Code≥0)&&decide (t.Code≤4)):=by
    unfold j7
    by_cases h1:t.Code≥0<;>by_cases h2:t.Code≤4<;>simp [h1,h2]<;>omega
  rw [e1,e2]
  simp only [Bool.and_assoc]
def a2b (x:j9):Bool:=(j7 x.Req.Who 0 2&&j7 x.Req.Seq 1 1000)&&L0 x.Prog
def a46 (w:f0) (k:Nat):Bool:=match w.Nodes[k]? with
  | some n=>(n.Id==(k:Int))&&G1 n
  | none=>true
def L4 (w:f0):Bool:=((w.Nodes.length:Int)==3)&&(decide ((w.Net.length:Int)≤40)&&(decide ((w.Asked.length:Int)≤60)&&(decide ((w.Told.length:Int)≤60)&&((List.range w.Nodes.length).all (a46 w)&&(w.Net.all a1O&&(w.Asked.all a2b&&w.Told.all Z3))))))
theorem c0L {w:f0} (h:a6x w):b0M w=some (L4 w):=by
  have k7:b2v w=some (w.Told.all Z3):=by
    unfold b2v
    rw [a1a w.Told (h.2.2.2.fits (by decide)) Z3 false ()]
    · cases w.Told.all Z3<;>rfl
    · intro k hk
      unfold b34
      rw [u5 _ k hk,p9 hk]
      simp only [cond_true,Option.bind_some,d8n]
      cases Z3 w.Told[k]<;>rfl
    · unfold b34
      rw [A5]; rfl
  have k9:b1j w=some (w.Asked.all a2b&&w.Told.all Z3):=by
    unfold b1j
    rw [a1a w.Asked (h.2.2.1.fits (by decide)) a2b false ()]
    · rw [k7]
      cases w.Asked.all a2b<;>rfl
    · intro k hk
      unfold b4M
      rw [u5 _ k hk,p9 hk]
      simp only [cond_true,Option.bind_some,b5H,b1c ((h.2.2.1.2 _ (List.getElem_mem hk)).2.fits (by decide))]
      unfold a2b
      cases j7 w.Asked[k].Req.Who 0 2&&j7 w.Asked[k].Req.Seq 1 1000<;>cases L0 w.Asked[k].Prog<;>rfl
    · unfold b4M
      rw [A5]; rfl
  have k11:b2P w=some (w.Net.all a1O&&(w.Asked.all a2b&&w.Told.all Z3)):=by
    unfold b2P
    rw [a1a w.Net (h.2.1.fits (by decide)) a1O false ()]
    · rw [k9]
      cases w.Net.all a1O<;>rfl
    · intro k hk
      unfold b2H
      rw [u5 _ k hk,p9 hk]
      simp only [cond_true,Option.bind_some,d3T (h.2.1.2 _ (List.getElem_mem hk))]
      cases a1O w.Net[k]<;>rfl
    · unfold b2H
      rw [A5]; rfl
  unfold b0M L4
  rw [a5n w.Nodes (h.1.fits (by decide)) (a46 w) false ()]
  · rw [k11]
    simp only [← a6t]
    rw [show ((w.Nodes.length:Int)==3) = !((w.Nodes.length:Int) != 3) from by simp [bne]]
    cases ((w.Nodes.length:Int) != 3)<;>cases decide ((w.Net.length:Int)>40)<;>cases decide ((w.Asked.length:Int)>60)<;>cases decide ((w.Told.length:Int)>60)<;>cases (List.range w.Nodes.length).all (a46 w)<;>rfl
  · intro k hk _
    unfold b4v
    rw [u5 _ k hk,p9 hk]
    simp only [cond_true,Option.bind_some,a8h (h.1.2 _ (List.getElem_mem hk)),a46,List.getElem?_eq_getElem hk,bne]
    cases w.Nodes[k].Id==(k:Int)<;>cases G1 w.Nodes[k]<;>rfl
  · unfold b4v
    rw [A5]; rfl
theorem c7q {α:Type} {p:List α→List α→Nat→Bool} (hp : ∀ (a b:List α) (k:Nat) (x y:α),a[k]?=some x→b[k]?=some y→(p a b k=true↔x=y)) (a b:List α):(a.length==b.length&&(List.range a.length).all (p a b))=true↔a=b:=by
  constructor
  · intro h
    simp only [Bool.and_eq_true,beq_iff_eq,List.all_eq_true,List.mem_range] at h
    refine List.ext_getElem h.1 fun i h1 h2 => ?_
    exact (hp a b i _ _ (List.getElem?_eq_getElem h1) (List.getElem?_eq_getElem h2)).1 (h.2 i h1)
  · rintro rfl
    simp only [Bool.and_eq_true,beq_iff_eq,List.all_eq_true,List.mem_range,true_and]
    intro k hk
    exact (hp a a k _ _ (List.getElem?_eq_getElem hk) (List.getElem?_eq_getElem hk)).2 rfl
theorem c2t (a b:i6):a3A a b=true↔a=b:=by
  have h1:=c7q (p:=a1M) (fun a b k x y hx hy=>by
    unfold a1M
    rw [hx,hy]
    cases x; cases y
    simp) a.Reads b.Reads
  have h2:=c7q (p:=a11) (fun a b k x y hx hy=>by
    unfold a11
    rw [hx,hy]
    cases x; cases y
    simp) a.Puts b.Puts
  unfold a3A
  rw [Bool.and_eq_true,h1,Bool.and_eq_true,h2,Bool.and_eq_true,beq_iff_eq,beq_iff_eq]
  cases a; cases b
  simp
theorem a3s (a b:b5):a1D a b=true↔a=b:=by
  unfold a1D
  rw [Bool.and_eq_true,Bool.and_eq_true,c2t]
  obtain ⟨n,⟨q1,q2⟩,r⟩:=a
  obtain ⟨n',⟨q1',q2'⟩,r'⟩:=b
  simp [and_assoc]
theorem R0 {n lo hi:Int}:j7 n lo hi=true↔lo≤n∧n≤hi:=by unfold j7; simp
theorem d5U {w:f0} (h:L4 w=true):w.Nodes.length=3 ∧ ∀ n∈w.Nodes,G1 n=true:=by
  unfold L4 at h
  simp only [Bool.and_eq_true,beq_iff_eq,List.all_eq_true,List.mem_range] at h
  refine ⟨by omega,fun n hn => ?_⟩
  obtain ⟨i,hi,rfl⟩:=List.getElem_of_mem hn
  have:=h.2.2.2.2.1 i hi
  unfold a46 at this
  rw [List.getElem?_eq_getElem hi] at this
  simp only [Bool.and_eq_true] at this
  exact this.2
theorem d8i {n:a6} (h:G1 n=true):j7 n.Id 0 2=true∧a3g n.Acc=true∧H4 n.Known=true∧a5D n=true∧a5h n=true:=by
  unfold G1 at h
  simp only [Bool.and_eq_true] at h
  exact ⟨h.1,h.2.1,h.2.2.1,h.2.2.2.2.2.1,h.2.2.2.2.2.2.1⟩
theorem a0h {e:b5} (h:E9 e):V1 e=some e:=by
  have h1:=h.2.1.1
  have h2:=h.2.2.1.1
  unfold V1 b7E
  rw [o9 (by simp; omega),o9 (by simp; omega)]
  rfl
theorem b7y {l:List b5} (h:v5 88 E9 l):a8u l=some l:=by
  have hf:n7 l:=h.fits (by decide)
  have hb:=h.1
  unfold a8u
  have hl:=V4 (body:=fun s:(List b5)×Int=>a9u l s.1 s.2) (fun k=>(l.take k,(k:Int))) l.length (by
    intro k hk
    unfold a9u
    rw [u5 _ k hk,p9 hk]
    simp only [cond_true,Option.bind_some,a0h (h.2 _ (List.getElem_mem hk)),H6 hf hk]
    rw [o9 (by rw [List.length_take]; omega),List.take_succ_eq_append_getElem hk])
  rw [show ((0:Nat):Int)=0 from rfl,List.take_zero] at hl
  rw [hl,List.take_length,D6 (b:=l)]
  · rfl
  · unfold a9u
    rw [A5]; rfl
def best (w:f0):Nat→Nat
  | 0=>0
  | k+1=>match w.Nodes[k]?,w.Nodes[best w k]? with
    | some a,some b=>bif decide ((a.Known.length:Int)>(b.Known.length:Int)) then k else best w k
    | _,_=>best w k
theorem a71 (w:f0) : ∀ k,0<w.Nodes.length→k≤w.Nodes.length→best w k<w.Nodes.length
  | 0,h,_=>h
  | k+1,h,hk=>by
    have hb:=a71 w k h (by omega)
    unfold best
    rw [List.getElem?_eq_getElem (show k<w.Nodes.length by omega),List.getElem?_eq_getElem hb]
    simp only
    cases decide ((w.Nodes[k].Known.length:Int)>(w.Nodes[best w k].Known.length:Int))
    · exact hb
    · exact hk
theorem d3m {w:f0} {k:Nat} (h:0<w.Nodes.length) (hk:k<w.Nodes.length):best w (k+1)=bif decide ((w.Nodes[k].Known.length:Int)>((w.Nodes[best w k]'(a71 w k h (by omega))).Known.length:Int)) then k else best w k:=by
  conv=>lhs; unfold best
  rw [List.getElem?_eq_getElem hk,List.getElem?_eq_getElem (a71 w k h (by omega))]
def a8K (w:f0):List b5:=match w.Nodes[best w w.Nodes.length]? with
  | some n=>n.Known
  | none=>[]
theorem d7f {w:f0} (h:a6x w) (hn:0<w.Nodes.length):b1w w=some (a8K w):=by
  have hf:n7 w.Nodes:=h.1.fits (by decide)
  unfold b1w
  have hl:=V4 (body:=fun s:Int×Int=>a9W w s.1 s.2) (fun k=>((best w k:Int),(k:Int))) w.Nodes.length (by
    intro k hk
    have hb:=a71 w k hn (by omega)
    unfold a9W b7R
    rw [u5 _ k hk,p9 hk,p9 hb,d3m hn hk]
    simp only [cond_true,Option.bind_some,H6 hf hk]
    cases decide ((w.Nodes[k].Known.length:Int)>(w.Nodes[best w k].Known.length:Int))<;>rfl)
  rw [show ((0:Nat):Int)=0 from rfl,show best w 0=0 from rfl] at hl
  have hbn:=a71 w w.Nodes.length hn (Nat.le_refl _)
  rw [show ((0:Nat):Int)=0 from rfl] at hl
  rw [hl,D6 (b:=(best w w.Nodes.length:Int))]
  · simp only [Option.bind_some,b7.go]
    unfold b8s a8K
    rw [show ((w.Nodes.length:Int)==0)=false from by rw [← Bool.not_eq_true,beq_iff_eq]; omega,p9 hbn,List.getElem?_eq_getElem hbn]
    simp only [cond_false,Option.bind_some,b7y (h.1.2 _ (List.getElem_mem hbn)).2.2.1]
  · unfold a9W
    rw [A5]; rfl
theorem d0P {w:f0} (h:a6x w) (hw:L4 w=true):0<w.Nodes.length∧v5 88 E9 (a8K w)∧H4 (a8K w)=true:=by
  obtain ⟨h3,hn⟩:=d5U hw
  have h0:0<w.Nodes.length:=by omega
  have hb:=a71 w w.Nodes.length h0 (Nat.le_refl _)
  refine ⟨h0,?_,?_⟩
  · unfold a8K
    rw [List.getElem?_eq_getElem hb]
    exact (h.1.2 _ (List.getElem_mem hb)).2.2.1
  · unfold a8K
    rw [List.getElem?_eq_getElem hb]
    exact (d8i (hn _ (List.getElem_mem hb))).2.2.1
def M5 (q:g9) (e:b5):Bool := !e.None&&(([e.Req.Who,e.Req.Seq]:List Int)==[q.Who,q.Seq])
theorem c3e {α R S B:Type} {body:S→Option (b6 R S B)} (st:Nat→S) (l:List α) (is:α→Bool) (r:Nat→R) (b:B)
    (h1 : ∀ (k:Nat) (h:k<l.length),body (st k)=some (bif is l[k] then .ret (r k) else .nxt (st (k+1)))) (h2:body (st l.length)=some (.brk b)) :
    m5 body (st 0)=some (match l.findIdx? is with | some k=>.ret (r k) | none=>.brk b):=by
  rcases a5Y (body:=body) st l.length (fun k=>match l[k]? with | some x => !is x | none=>true) r b
    (fun k hk _=>by
      rw [h1 k hk,List.getElem?_eq_getElem hk]
      simp only
      cases is l[k]<;>rfl) (fun _=>h2) with ⟨h,hall⟩ | ⟨k,hk,ho,hb,h⟩
  · have:l.findIdx? is=none:=by
      rw [List.findIdx?_eq_none_iff]
      intro x hx
      obtain ⟨i,hi,rfl⟩:=List.getElem_of_mem hx
      have:=hall i hi
      rw [List.getElem?_eq_getElem hi] at this
      simpa using this
    rw [this]; exact h
  · have:l.findIdx? is=some k:=by
      rw [List.findIdx?_eq_some_iff_getElem]
      refine ⟨hk,?_,fun j hj => ?_⟩
      · rw [List.getElem?_eq_getElem hk] at ho
        simpa using ho
      · have:=hb j hj
        rw [List.getElem?_eq_getElem (show j<l.length by omega)] at this
        simpa using this
    rw [this]; exact h
theorem c5R {l:List b5} (hl:l.length≤40) (he:l.all q9=true) {k:Nat} (hk:k<l.length):(l9 l).2[k]?=some (apply (l9 (l.take k)).1 l[k]).2:=by
  have key : ∀ m,k<m→m≤l.length→(l9 (l.take m)).2[k]?=some (apply (l9 (l.take k)).1 l[k]).2:=by
    intro m
    induction m with
    | zero=>omega
    | succ m ih =>
      intro h1 h2
      have hlen:=(X4 hl he m (by omega)).2.1
      rw [a2H (show m<l.length by omega)]
      unfold a3t
      simp only
      by_cases q:k<m
      · rw [List.getElem?_append_left (by omega)]
        exact ih q (by omega)
      · have:k=m:=by omega
        subst this
        rw [List.getElem?_append_right (by omega),hlen]
        simp
  have:=key l.length hk (Nat.le_refl _)
  rwa [List.take_length] at this
def a2I (l:List b5) (k:Nat):Int:=(l9 l).2[k]?.getD 0
def a5E (ps:List m4) (b:Int):Option Nat:=ps.findIdx? (·.Box==b)
def atI:Option Nat→Int
  | some k=>(k:Int)
  | none => -1
theorem c00 {l:List m4} (h:n7 l) (b:Int):a2l l b=some (atI (a5E l b)):=by
  unfold a2l
  rw [show (0:Int)=((0:Nat):Int) from rfl,c3e (body:=fun s:Int=>a1i l b s) (fun k=>(k:Int)) l (·.Box==b) (fun k=>(k:Int)) ()]
  · unfold a5E
    cases l.findIdx? (·.Box==b)<;>rfl
  · intro k hk
    unfold a1i
    rw [u5 _ k hk,p9 hk,H6 h hk]
    simp only [cond_true,Option.bind_some]
    cases l[k].Box==b<;>rfl
  · unfold a1i
    rw [A5]; rfl
theorem c8f {ps:List m4} {b:Int} {k:Nat} (h:a5E ps b=some k):k<ps.length:=by
  obtain ⟨hk,_⟩:=List.findIdx?_eq_some_iff_getElem.1 h
  exact hk
theorem c2q (k:Nat):decide (atI (some k)≥0)=true:=by simp [atI]
theorem c8T:decide (atI none≥0)=false:=by simp [atI]
def a0z (v:Int):Bool:=j7 v (-1000000) 1000000
def M8 (regs:List Int) (a:Int):Int:=regs.getD a.toNat 0
theorem Z9 {regs:List Int} (h:regs.length=4) {a:Int} (ha:0≤a∧a≤3):idx regs a=some (M8 regs a):=by
  obtain ⟨k,rfl⟩:=Int.eq_ofNat_of_zero_le ha.1
  have hk:k<regs.length:=by omega
  rw [p9 hk]
  unfold M8
  simp [hk]
theorem d6a {regs:List Int} (h:regs.length=4) {a v:Int} (ha:0≤a∧a≤3):M8 (regs.set a.toNat v) a=v:=by
  unfold M8
  have:a.toNat<regs.length:=by omega
  simp [this]
theorem d3G {regs:List Int} (h:regs.length=4) (hr:regs.all a0z=true) {a v:Int} (ha:0≤a∧a≤3):(regs.set a.toNat v).all a0z=a0z v:=by
  cases hv:a0z v
  · rw [List.all_eq_false]
    exact ⟨v,List.mem_of_getElem? (i:=a.toNat) (by rw [List.getElem?_set_self (by omega)]),by simp [hv]⟩
  · rw [List.all_eq_true] at hr ⊢
    intro x hx
    rcases List.mem_or_eq_of_mem_set hx with hx | rfl
    · exact hr x hx
    · exact hv
theorem a8U {regs:List Int} (h:regs.length=4) (hr:regs.all a0z=true) {a:Int} (ha:0≤a∧a≤3) : -1000000≤M8 regs a∧M8 regs a≤1000000:=by
  have hi:=Z9 h ha
  have hm:M8 regs a∈regs:=List.mem_of_getElem? (b3r hi).2.2
  have:=List.all_eq_true.1 hr _ hm
  simpa [a0z,j7] using this
structure EI (regs:List Int) (rs:List n3) (ps:List m4) (k:Nat):Prop where
  len:regs.length=4
  rng:regs.all a0z=true
  rl:rs.length≤k
  pl:ps.length≤k
theorem EI.fr {regs:List Int} {rs:List n3} {ps:List m4} {k:Nat} (h:EI regs rs ps k) (hk:k≤100):n7 rs:=by
  have:=h.rl
  unfold n7
  omega
theorem EI.fp {regs:List Int} {rs:List n3} {ps:List m4} {k:Nat} (h:EI regs rs ps k) (hk:k≤100):n7 ps:=by
  have:=h.pl
  unfold n7
  omega
def N1 (l:List g7) (i:j6) (regs:List Int) (rs:List n3) (ps:List m4):List Int×List n3×List m4 :=
  bif i.Kind==1 then (match a5E ps i.B with
    | some k=>(match ps[k]? with
      | some p=>(regs.set i.A.toNat p.Val,rs,ps)
      | none=>(regs,rs,ps))
    | none=>match l[i.B.toNat]? with
      | some b=>(regs.set i.A.toNat b.Val,bif P1 rs i.B then rs else rs++[⟨i.B,b.Ver⟩],ps)
      | none=>(regs,rs,ps))
  else bif i.Kind==2 then (regs,rs,match a5E ps i.A with
    | some k=>(match ps[k]? with
      | some p=>ps.set k ⟨p.Box,M8 regs i.B⟩
      | none=>ps)
    | none=>ps++[⟨i.A,M8 regs i.B⟩])
  else bif i.Kind==3 then (regs.set i.A.toNat i.N,rs,ps)
  else bif i.Kind==4 then (regs.set i.A.toNat (M8 regs i.A+M8 regs i.B),rs,ps)
  else bif i.Kind==5 then (regs.set i.A.toNat (M8 regs i.A - M8 regs i.B),rs,ps)
  else (regs,rs,ps)
def a5b (l:List g7) (prog:List j6):Nat→Nat→List Int→List n3→List m4→i6
  | 0,_,regs,rs,ps=>⟨rs,ps,M8 regs 0,0⟩
  | f+1,k,regs,rs,ps=>match prog[k]? with
    | none=>⟨rs,ps,M8 regs 0,0⟩
    | some i=>bif i.Kind==6 then a5b l prog f (bif decide (M8 regs i.A<M8 regs i.B) then k+i.N.toNat+1 else k+1) regs rs ps
      else bif i.Kind==7 then ⟨rs,[],0,1⟩
      else bif (N1 l i regs rs ps).1.all a0z then a5b l prog f (k+1) (N1 l i regs rs ps).1 (N1 l i regs rs ps).2.1 (N1 l i regs rs ps).2.2
      else ⟨(N1 l i regs rs ps).2.1,[],0,2⟩
def z4 (l:List g7) (prog:List j6):i6:=bif G3 l&&L0 prog then a5b l prog (prog.length+1) 0 [0,0,0,0] [] [] else ⟨[],[],0,3⟩
section
variable {l:List g7} {regs:List Int} {rs:List n3} {ps:List m4} {k:Nat} {i:j6}
theorem c7P (h:regs.length=4):(N1 l i regs rs ps).1.length=4:=by
  unfold N1
  cases i.Kind==1<;>cases i.Kind==2<;>cases i.Kind==3<;>cases i.Kind==4<;>cases i.Kind==5<;>simp only [cond_true,cond_false,List.length_set,h]
  all_goals
    split
    · split<;>simp [h]
    · split<;>simp [h]
theorem d15 (h:rs.length≤k):(N1 l i regs rs ps).2.1.length≤k+1:=by
  unfold N1
  cases i.Kind==1<;>cases i.Kind==2<;>cases i.Kind==3<;>cases i.Kind==4<;>cases i.Kind==5<;>simp only [cond_true,cond_false]<;>try omega
  all_goals
    split
    · split<;>(simp only; omega)
    · split
      · cases P1 rs i.B<;>simp only [cond_true,cond_false,List.length_append,List.length_singleton]<;>omega
      · simp only; omega
theorem c98 (h:ps.length≤k):(N1 l i regs rs ps).2.2.length≤k+1:=by
  unfold N1
  cases i.Kind==1<;>cases i.Kind==2<;>cases i.Kind==3<;>cases i.Kind==4<;>cases i.Kind==5<;>simp only [cond_true,cond_false]<;>try omega
  all_goals (repeat' split)
  all_goals (try simp only [List.length_set,List.length_append,List.length_singleton])
  all_goals omega
theorem EI.next (h:EI regs rs ps k) (ha:(N1 l i regs rs ps).1.all a0z=true):EI (N1 l i regs rs ps).1 (N1 l i regs rs ps).2.1 (N1 l i regs rs ps).2.2 (k+1) :=
  ⟨c7P h.len,ha,d15 h.rl,c98 h.pl⟩
theorem c4s {x:Int} (h : -1000000≤x∧x≤1000000) {y:Int} (h' : -1000000≤y∧y≤1000000):i7 (x+y)=x+y∧i7 (x - y)=x - y:=⟨B0 (by omega) (by omega),B0 (by omega) (by omega)⟩
theorem d6H (hl:G3 l=true) (he:EI regs rs ps k) (hk:k≤100) (hi:a0P i=true) (h6:i.Kind≠6) (h7:i.Kind≠7) :
    a4A l ⟨rs,ps,0,0⟩ regs i=some (⟨(N1 l i regs rs ps).2.1,(N1 l i regs rs ps).2.2,0,bif (N1 l i regs rs ps).1.all a0z then 0 else 2⟩,(N1 l i regs rs ps).1):=by
  have hfr:=he.fr hk
  have hfp:=he.fp hk
  have hrl:=he.rl
  have hpl:=he.pl
  have n1:(rs.length+1) * 16≤140737488355328:=by omega
  have n2:(ps.length+1) * 16≤140737488355328:=by omega
  have fin : ∀ (a v:Int) (rs':List n3) (ps':List m4),0≤a∧a≤3→i.Kind≠2→i.A=a→a2J i (regs.set a.toNat v) rs' ps' 0 0=some (⟨rs',ps',0,bif (regs.set a.toNat v).all a0z then 0 else 2⟩,regs.set a.toNat v):=by
    intro a v rs' ps' ha h2 hia
    unfold a2J a5X
    rw [show (i.Kind != 2)=true from by simpa using h2,cond_true,hia,Z9 (by simpa using he.len) ha,Option.bind_some,a4g,Option.bind_some,d6a he.len ha,d3G he.len he.rng ha]
    unfold a0z
    cases j7 v (-1000000) 1000000<;>rfl
  unfold a4A N1
  rcases a8P hi with ⟨h,ha,hb⟩ | ⟨h,ha,hb⟩ | ⟨h,ha,hn⟩ | ⟨h,ha,hb⟩ | ⟨h,ha,hb⟩ | ⟨h,_⟩ | ⟨h,_⟩
  · simp only [h,show ((1:Int)==1)=true from rfl,cond_true]
    unfold a81 a9V
    rw [c00 hfp,Option.bind_some]
    cases hp:a5E ps i.B with
    | some j =>
      have hj:=c8f hp
      simp only [c2q,cond_true,List.getElem?_eq_getElem hj]
      simp only [atI,p9 hj,Option.bind_some,Z9 he.len ha,b7.go]
      exact fin i.A _ rs ps ha (by omega) rfl
    | none =>
      obtain ⟨b,hb1,hb2,_⟩:=a5a hl hb
      simp only [c8T,cond_false,b5f hfr,Option.bind_some,hb1,hb2,o9 n1]
      cases hs:P1 rs i.B
      · simp only [Bool.not_false,cond_true,cond_false,Option.bind_some,b7.go,hb1,Z9 he.len ha]
        exact fin i.A _ _ _ ha (by omega) rfl
      · simp only [Bool.not_true,cond_true,cond_false,Option.bind_some,b7.go,hb1,Z9 he.len ha]
        exact fin i.A _ _ _ ha (by omega) rfl
  · simp only [h,show ((2:Int)==1)=false from rfl,show ((2:Int)==2)=true from rfl,cond_true,cond_false,Z9 he.len hb,Option.bind_some]
    unfold a9N
    rw [c00 hfp,Option.bind_some]
    have fin2 : ∀ ps':List m4,a2J i regs rs ps' 0 0=some (⟨rs,ps',0,bif regs.all a0z then 0 else 2⟩,regs):=by
      intro ps'
      unfold a2J a5X
      rw [he.rng,h]
      rfl
    cases hp:a5E ps i.A with
    | some j =>
      have hj:=c8f hp
      simp only [c2q,cond_true,List.getElem?_eq_getElem hj]
      simp only [atI,p9 hj,Option.bind_some,b7.go,Int.toNat_natCast]
      exact fin2 _
    | none =>
      simp only [c8T,cond_false,o9 n2,Option.bind_some,b7.go]
      exact fin2 _
  · simp only [h,show ((3:Int)==1)=false from rfl,show ((3:Int)==2)=false from rfl,show ((3:Int)==3)=true from rfl,cond_true,cond_false,Z9 he.len ha,Option.bind_some,b7.go]
    exact fin i.A _ _ _ ha (by omega) rfl
  · simp only [h,show ((4:Int)==1)=false from rfl,show ((4:Int)==2)=false from rfl,show ((4:Int)==3)=false from rfl,show ((4:Int)==4)=true from rfl,cond_true,cond_false,Z9 he.len ha,Z9 he.len hb,Option.bind_some,b7.go,(c4s (a8U he.len he.rng ha) (a8U he.len he.rng hb)).1]
    exact fin i.A _ _ _ ha (by omega) rfl
  · simp only [h,show ((5:Int)==1)=false from rfl,show ((5:Int)==2)=false from rfl,show ((5:Int)==3)=false from rfl,show ((5:Int)==4)=false from rfl,show ((5:Int)==5)=true from rfl,cond_true,cond_false,Z9 he.len ha,Z9 he.len hb,Option.bind_some,b7.go,(c4s (a8U he.len he.rng ha) (a8U he.len he.rng hb)).2]
    exact fin i.A _ _ _ ha (by omega) rfl
  · exact absurd h h6
  · exact absurd h h7
theorem d27 (hi:i.Kind=7) (ha:i.A=0) (he:EI regs rs ps k):a4A l ⟨rs,ps,0,0⟩ regs i=some (⟨rs,ps,0,1⟩,regs):=by
  have hin:=a8U he.len he.rng (a:=0) (by omega)
  unfold a4A a2J a5X
  simp only [hi,ha,show ((7:Int)==1)=false from rfl,show ((7:Int)==2)=false from rfl,show ((7:Int)==3)=false from rfl,show ((7:Int)==4)=false from rfl,show ((7:Int)==5)=false from rfl,show ((7:Int)==7)=true from rfl,show ((7:Int) != 2)=true from rfl,cond_true,cond_false,Option.bind_some,b7.go,Z9 he.len (a:=0) (by omega),a4g]
  rw [show j7 (M8 regs 0) (-1000000) 1000000=true from by simp [j7]; exact hin]
  rfl
theorem d1x (l:List g7) {prog:List j6} {f k:Nat} {regs:List Int} {rs:List n3} {ps:List m4} (h:prog.length≤k):a5b l prog f k regs rs ps=⟨rs,ps,M8 regs 0,0⟩:=by
  cases f with
  | zero=>rfl
  | succ f =>
    unfold a5b
    rw [List.getElem?_eq_none h]
theorem c3Q {prog:List j6} (hp:L0 prog=true):prog.length≤10 ∧ ∀ i∈prog,a0P i=true:=by
  unfold L0 at hp
  simpa using hp
theorem c5j (l:List g7) (prog:List j6) (regs:List Int) (rs:List n3) (ps:List m4) (k c:Int) (hc:(c==0)=false) :
    ((m5 (fun s:(List Int)×(List n3)×(List m4)×Int×Int×Int=>a0p l prog s.1 s.2.1 s.2.2.1 s.2.2.2.1 s.2.2.2.2.1 s.2.2.2.2.2) (regs,rs,ps,k,0,c)).bind fun x=>x.go (fun r=>some r) fun s=>a4x s.1 s.2.1 s.2.2.1 s.2.2.2.1 s.2.2.2.2)=some ⟨rs,[],0,c⟩:=by
  rw [D6 (b:=(rs,ps,regs,0,c))]
  · simp only [Option.bind_some,b7.go]
    unfold a4x
    rw [bne,hc]
    rfl
  · unfold a0p
    simp only [hc,cond_false]
    cases decide (k<(prog.length:Int))<;>rfl
theorem d7o (hl:G3 l=true) {prog:List j6} (hp:L0 prog=true) : ∀ (f k:Nat) (regs:List Int) (rs:List n3) (ps:List m4),EI regs rs ps k→prog.length<k+f→k≤prog.length+10 →
    ((m5 (fun s:(List Int)×(List n3)×(List m4)×Int×Int×Int=>a0p l prog s.1 s.2.1 s.2.2.1 s.2.2.2.1 s.2.2.2.2.1 s.2.2.2.2.2) (regs,rs,ps,(k:Int),0,0)).bind fun x=>x.go (fun r=>some r) fun s=>a4x s.1 s.2.1 s.2.2.1 s.2.2.2.1 s.2.2.2.2)=some (a5b l prog f k regs rs ps):=by
  obtain ⟨hlen,hins⟩:=c3Q hp
  intro f
  induction f with
  | zero =>
    intro k regs rs ps he hf hk
    rw [D6 (b:=(rs,ps,regs,0,0))]
    · simp only [Option.bind_some,b7.go]
      unfold a4x
      rw [show ((0:Int) != 0)=false from rfl,cond_false,Z9 he.len (a:=0) (by omega)]
      rfl
    · unfold a0p
      rw [show decide ((k:Int)<(prog.length:Int))=false from by simp; omega]
      rfl
  | succ f ih =>
    intro k regs rs ps he hf hk
    by_cases hlt:k<prog.length
    · have hi:=hins _ (List.getElem_mem hlt)
      unfold a5b
      rw [List.getElem?_eq_getElem hlt]
      simp only
      by_cases h6:prog[k].Kind=6
      · obtain ⟨ha,hb,hn⟩:(0≤prog[k].A∧prog[k].A≤3)∧(0≤prog[k].B∧prog[k].B≤3)∧1≤prog[k].N∧prog[k].N≤10:=by
          rcases a8P hi with ⟨h,_⟩ | ⟨h,_⟩ | ⟨h,_⟩ | ⟨h,_⟩ | ⟨h,_⟩ | ⟨h,x⟩ | ⟨h,_⟩
          all_goals first | (exact x) | (exfalso; omega)
        have hb1:a0p l prog regs rs ps (k:Int) 0 0=some (.nxt (regs,rs,ps,((bif decide (M8 regs prog[k].A<M8 regs prog[k].B) then k+prog[k].N.toNat+1 else k+1:Nat):Int),0,0)):=by
          unfold a0p b32
          rw [u5 _ k hlt,p9 hlt]
          simp only [cond_true,Option.bind_some,h6,show ((6:Int)==6)=true from rfl,show ((0:Int)==0)=true from rfl,Z9 he.len ha,Z9 he.len hb]
          cases decide (M8 regs prog[k].A<M8 regs prog[k].B)
          · simp only [cond_false,Option.bind_some,b7.go]
            rw [B0 (by omega) (by omega)]
            rfl
          · simp only [cond_true,Option.bind_some,b7.go]
            rw [B0 (n:=(k:Int)+prog[k].N) (by omega) (by omega),B0 (by omega) (by omega),show ((k+prog[k].N.toNat+1:Nat):Int)=(k:Int)+prog[k].N+1 from by omega]
        rw [M3 hb1,h6]
        simp only [show ((6:Int)==6)=true from rfl,cond_true]
        refine ih _ _ _ _ ⟨he.len,he.rng,?_,?_⟩ ?_ ?_
        all_goals
          have h1:=he.rl
          have h2:=he.pl
          cases decide (M8 regs prog[k].A<M8 regs prog[k].B)<;>simp only [cond_true,cond_false]<;>omega
      by_cases h7:prog[k].Kind=7
      · have ha:prog[k].A=0:=by
          rcases a8P hi with ⟨h,_⟩ | ⟨h,_⟩ | ⟨h,_⟩ | ⟨h,_⟩ | ⟨h,_⟩ | ⟨h,_⟩ | ⟨h,x⟩
          all_goals first | (exact x) | (exfalso; omega)
        have hb1:a0p l prog regs rs ps (k:Int) 0 0=some (.nxt (regs,rs,ps,i7 ((k:Int)+1),0,1)):=by
          unfold a0p
          rw [u5 _ k hlt,p9 hlt]
          simp only [cond_true,Option.bind_some,show ((0:Int)==0)=true from rfl,d27 h7 ha he,h7,show ((7:Int)==6)=false from rfl,cond_false]
          rw [o9 trivial]
        rw [M3 hb1,c5j _ _ _ _ _ _ _ rfl,h7]
        rfl
      · have hs:=d6H hl he (by omega) hi h6 h7
        have hb1:a0p l prog regs rs ps (k:Int) 0 0=some (.nxt ((N1 l prog[k] regs rs ps).1,(N1 l prog[k] regs rs ps).2.1,(N1 l prog[k] regs rs ps).2.2,((k+1:Nat):Int),0,bif (N1 l prog[k] regs rs ps).1.all a0z then 0 else 2)):=by
          unfold a0p
          rw [u5 _ k hlt,p9 hlt]
          simp only [cond_true,Option.bind_some,show ((0:Int)==0)=true from rfl,hs,show (prog[k].Kind==6)=false from by simpa using h6,cond_false]
          rw [o9 (by rw [c7P he.len]; exact he.len),B0 (by omega) (by omega)]
          rfl
        rw [M3 hb1,show (prog[k].Kind==6)=false from by simpa using h6,show (prog[k].Kind==7)=false from by simpa using h7,cond_false,cond_false]
        cases hall:(N1 l prog[k] regs rs ps).1.all a0z
        · rw [cond_false,cond_false,c5j _ _ _ _ _ _ _ rfl]
        · rw [cond_true,cond_true]
          exact ih _ _ _ _ (he.next hall) (by omega) (by omega)
    · rw [d1x l (by omega),D6 (b:=(rs,ps,regs,0,0))]
      · simp only [Option.bind_some,b7.go]
        unfold a4x
        rw [show ((0:Int) != 0)=false from rfl,cond_false,Z9 he.len (a:=0) (by omega)]
        rfl
      · unfold a0p
        rw [show decide ((k:Int)<(prog.length:Int))=false from by simp; omega]
        rfl
theorem ei0:EI [0,0,0,0] [] [] 0:=⟨rfl,by decide,by simp,by simp⟩
theorem c5F {l:List g7} {prog:List j6} (hl:n7 l) (hp:n7 prog):a5O l prog=some (z4 l prog):=by
  unfold a5O z4
  rw [b5h hl,Option.bind_some,b1c hp,Option.bind_some]
  cases hb:G3 l
  · rfl
  cases ho:L0 prog
  · rfl
  rw [Bool.not_true,cond_false,cond_false,o9 (by decide)]
  have:=d7o hb ho (prog.length+1) 0 [0,0,0,0] [] [] ei0 (by omega) (by omega)
  exact this
end
theorem c4g {l:List b5} (hl:l.length≤40) (he:l.all q9=true) {k:Nat} (hk:k≤l.length):(z7 l (l9 l).2 k).length≤40:=by
  obtain ⟨_,hlen,hc⟩:=X4 hl he l.length (Nat.le_refl _)
  rw [List.take_length] at hlen hc
  have h1:=b4Q hlen k hk
  have h2:=c0H ((l9 l).2.take k) 0
  rw [List.length_take] at h2
  omega
theorem d3N {l:List b5} (h:v5 88 X0 l):b2G l=some (o6 l):=by
  unfold b2G o6
  rw [c4O h,Option.bind_some]
  cases hok:H4 l
  · rfl
  have hf:n7 l:=h.fits (by decide)
  obtain ⟨hl,he⟩:=a1K hok
  obtain ⟨_,hlen,hc⟩:=X4 hl he l.length (Nat.le_refl _)
  rw [List.take_length] at hlen hc
  rw [Bool.not_true,cond_false,cond_true,b1V,Option.bind_some]
  have hloop:=V4 (body:=fun s:(List g9)×(List g7)×Int×Int×List d9=>a6m l s.1 s.2.1 s.2.2.1 s.2.2.2.1 s.2.2.2.2) (fun k=>(z7 l (l9 l).2 k,(l9 (l.take k)).1.Boxes,(k:Int),(l9 (l.take k)).1.At,(l9 (l.take k)).1.Dones)) l.length (by
    intro k hk
    have hk2:k<(l9 l).2.length:=by omega
    have hs:=c4g hl he (k:=k) (by omega)
    obtain ⟨h1,h2,h3⟩:=X4 hl he k (by omega)
    have n1:((z7 l (l9 l).2 k).length+1) * 16≤140737488355328:=by omega
    have hcode:=b45 hl he hk
    rw [List.getElem?_eq_getElem hk2] at hcode
    have hcode:=Option.some.inj hcode
    show a6m l (z7 l (l9 l).2 k) (l9 (l.take k)).1.Boxes (k:Int) (l9 (l.take k)).1.At (l9 (l.take k)).1.Dones=some (.nxt (z7 l (l9 l).2 k++a5C l (l9 l).2 k,(l9 (l.take (k+1))).1.Boxes,((k+1:Nat):Int),(l9 (l.take (k+1))).1.At,(l9 (l.take (k+1))).1.Dones))
    rw [a96 hk hk2,a2H hk,hcode]
    unfold a6m b8o
    rw [u5 _ k hk,p9 hk,H6 hf hk]
    simp only [cond_true,Option.bind_some]
    rw [show (⟨(l9 (l.take k)).1.At,(l9 (l.take k)).1.Boxes,(l9 (l.take k)).1.Dones⟩:j4)=(l9 (l.take k)).1 from rfl,b4y h1 (by omega) (List.all_eq_true.1 he _ (List.getElem_mem hk)) (h.2 _ (List.getElem_mem hk)),Option.bind_some,o9 n1]
    cases (apply (l9 (l.take k)).1 l[k]).2==0
    · simp only [cond_false,Option.bind_some,b7.go,List.append_nil]
      rfl
    · rfl)
  rw [List.take_zero,List.take_length,show z7 l (l9 l).2 0=[] from rfl,show ((0:Nat):Int)=0 from rfl] at hloop
  rw [show m5 (fun s:(List g9)×(List g7)×Int×Int×List d9=>a6m l s.1 s.2.1 s.2.2.1 s.2.2.2.1 s.2.2.2.2) (([]:List g9),N2.Boxes,0,N2.At,N2.Dones)=_ from hloop,D6 (b:=z7 l (l9 l).2 l.length)]
  · rfl
  · unfold a6m
    rw [A5]; rfl
theorem d8S (l:List b5):n7 (o6 l):=by
  unfold o6
  cases hok:H4 l
  · simp [n7]
  · obtain ⟨hl,he⟩:=a1K hok
    have:=c4g hl he (Nat.le_refl _)
    show n7 (z7 l (l9 l).2 l.length)
    unfold n7
    omega
theorem c9u {l:List g7} {p:List j6} (hl:G3 l=true) (hp:n7 p):Ran (z4 l p):=by
  obtain ⟨r,h1,h2,_⟩:=c2Q (a4r hl) hp
  rw [c5F (a4r hl) hp] at h1
  injection h1 with h1
  rw [h1]
  exact h2 hl
theorem d8o {s:j4} {e:b5} (h:e.None=true):(apply s e).2=5:=by
  unfold apply
  rw [h]
  rfl
theorem c1F {l:List b5} (hl:l.length≤40) (he:l.all q9=true) : ∀ k,k≤l.length → ∀ q∈z7 l (l9 l).2 k,∃ e∈l,M5 q e=true
  | 0,_,q,hq=>by cases hq
  | k+1,hk,q,hq=>by
    have h1:k<l.length:=by omega
    have hlen:=(X4 hl he l.length (Nat.le_refl _)).2.1
    rw [List.take_length] at hlen
    have h2:k<(l9 l).2.length:=by omega
    unfold z7 at hq
    rcases List.mem_append.1 hq with hq | hq
    · exact c1F hl he k (by omega) q hq
    · rw [a96 h1 h2] at hq
      cases hc:(l9 l).2[k]==0
      · rw [hc] at hq; cases hq
      · rw [hc,cond_true,List.mem_singleton] at hq
        refine ⟨l[k],List.getElem_mem h1,?_⟩
        have hco:=b45 hl he h1
        rw [List.getElem?_eq_getElem h2] at hco
        have hco:=Option.some.inj hco
        rw [hq]
        unfold M5
        cases hn:l[k].None
        · simp
        · rw [d8o hn] at hco
          rw [hco] at hc
          cases hc
def a6R (l:List b5) (q:g9):Int:=match l.findIdx? (M5 q) with
  | some k=>(match l[k]? with | some e=>e.Run.Val | none=>0)
  | none=>0
def d9A (a b:d7):Bool := !(decide (a.Bal>0)&&((a.Bal==b.Bal) && !a1D a.Entry b.Entry))
def other (a b:a6):Bool := !(decide (a.Bal>0)&&(a.Bal==b.Bal))
def eN:b5:=⟨true,⟨0,0⟩,⟨[],[],0,0⟩⟩
def v0:d7:=⟨0,zE⟩
def b0S (b:Int):Bool:=j7 b 1 3000
def R7 (a:s6) (b:Int):Option s6:=bif b0S b&&decide (a.Promised≤b) then some ⟨b,a.Votes⟩ else none
def a1I (vs:List d7) (n:Nat):List d7:=vs++List.replicate (n - vs.length) v0
def U6 (a:s6) (b z0:Int) (e:b5):Option s6 :=
  bif j7 z0 0 39&&q9 e then (R7 a b).map fun x=>⟨x.Promised,(a1I x.Votes (z0.toNat+1)).set z0.toNat ⟨b,e⟩⟩ else none
def I5:List d7→List d7→List d7
  | [],b=>b
  | a,[]=>a
  | x::a,y::b=>(bif decide (y.Bal>x.Bal) then y else x)::I5 a b
def a0a (b who:Int):Int :=
  bif decide (b+1≤3000)&&(Int.tmod (b+1) 3==who) then b+1 else
  bif decide (b+2≤3000)&&(Int.tmod (b+2) 3==who) then b+2 else
  bif decide (b+3≤3000)&&(Int.tmod (b+3) 3==who) then b+3 else -1
def b31 (n:a6):a6:={ n with Phase:=0,Bal:=0,From:=[],Best:=[],Cur:=zE,Votes:=[] }
def a95 (n:a6):a6:={ n with Busy:=false,Prog:=[],Want:=zE }
def U7 (l:List b5) (q:g9):Bool:=l.any (M5 q)
def b0T (id:Int):List Bool:=(List.replicate 3 false).set id.toNat true
def two (l:List Bool):Bool:=decide (2≤(l.filter (· == true)).length)
def T2 (id:Int) (m:a8):List a8:=(([0,1,2]:List Int).filter (· != id)).map fun t=>{ m with From:=id,To:=t }
def a3R (m out:a8):a8:={ out with From:=m.To,To:=m.From }
def a07 (n:a6) (b:Int):a6:=bif n.Phase != 0&&decide (b>n.Bal) then b31 n else n
def a0x (known:List b5):List b5→List b5×Option b5
  | []=>([],none)
  | e::q=>bif U7 known e.Req then a0x known q else (q,some e)
def a5N (n:a6):a6×Option b5 :=
  bif (n.Best.drop n.Known.length).any (fun v=>decide (v.Bal>0)) then (n,some eN)
  else bif n.Busy && !U7 n.Known n.Want.Req then (n,some n.Want)
  else ({ n with Queue:=(a0x n.Known n.Queue).1 },(a0x n.Known n.Queue).2)
def a2V (n:a6):a6×Option b5:=match n.Best[n.Known.length]? with
  | some v=>bif decide (v.Bal>0) then (n,some v.Entry) else a5N n
  | none=>a5N n
def a9R (x:a6) (e:b5):a6×List a8:=match U6 x.Acc x.Bal (x.Known.length:Int) e with
  | some a=>({ x with Acc:=a,Phase:=3,Cur:=e,Votes:=b0T x.Id },T2 x.Id ⟨3,0,0,x.Bal,(x.Known.length:Int),e,[]⟩)
  | none=>(b31 x,[])
def Z6 (n:a6):a6×List a8 :=
  bif n.Phase != 2||decide (40≤n.Known.length) then (n,[]) else match a2V n with
    | (x,some e)=>a9R x e
    | (x,none)=>(x,[])
def a08 (n:a6):a6×List e9 :=
  bif n.Busy then (match n.Known.findIdx? (M5 n.Want.Req) with
    | some k=>(a95 n,[⟨n.Id,n.Want.Req,a2I n.Known k,bif a2I n.Known k==0 then a6R n.Known n.Want.Req else 0⟩])
    | none=>(n,[]))
  else (n,[])
def X3 (n:a6) (e:b5):a6 :=
  bif n.Phase==3 then { n with Known:=n.Known++[e],Phase:=2,Cur:=zE,Votes:=[] } else { n with Known:=n.Known++[e] }
def a2D (n:a6) (e:b5):a6×List a8×List e9 :=
  ((Z6 (a08 (X3 n e)).1).1,(Z6 (a08 (X3 n e)).1).2,(a08 (X3 n e)).2)
def a57 (n:a6) (m:a8):a6×List a8:=match R7 n.Acc m.Bal with
  | some a=>(a07 { n with Acc:=a } m.Bal,[a3R m ⟨2,0,0,m.Bal,m.Slot,zE,a.Votes.drop m.Slot.toNat⟩])
  | none=>(n,[a3R m ⟨6,0,0,n.Acc.Promised,0,zE,[]⟩])
def a5I (n:a6) (m:a8):a6×List a8:=match U6 n.Acc m.Bal m.Slot m.Entry with
  | some a=>(a07 { n with Acc:=a } m.Bal,[a3R m ⟨4,0,0,m.Bal,m.Slot,zE,[]⟩])
  | none=>(n,[a3R m ⟨6,0,0,n.Acc.Promised,0,zE,[]⟩])
def a5m (n:a6) (m:a8):a6×List a8 :=
  bif n.Phase != 1||m.Bal != n.Bal then (n,[]) else
  bif two (n.From.set m.From.toNat true) then
    Z6 { n with From:=[],Best:=I5 n.Best (List.replicate m.Slot.toNat v0++m.Votes),Phase:=2 }
  else ({ n with From:=n.From.set m.From.toNat true,Best:=I5 n.Best (List.replicate m.Slot.toNat v0++m.Votes) },[])
def a8d (n:a6) (m:a8):a6×List a8×List e9 :=
  bif n.Phase != 3||(m.Bal != n.Bal||m.Slot != (n.Known.length:Int)) then (n,[],[]) else
  bif two (n.Votes.set m.From.toNat true) then
    ((a2D { n with Votes:=n.Votes.set m.From.toNat true } n.Cur).1,T2 n.Id ⟨5,0,0,0,(n.Known.length:Int),n.Cur,[]⟩++(a2D { n with Votes:=n.Votes.set m.From.toNat true } n.Cur).2.1,(a2D { n with Votes:=n.Votes.set m.From.toNat true } n.Cur).2.2)
  else ({ n with Votes:=n.Votes.set m.From.toNat true },[],[])
def a7v (n:a6) (m:a8):a6×List a8×List e9 :=
  bif decide (m.Slot<(n.Known.length:Int)) then (n,[],[]) else
  bif decide (m.Slot>(n.Known.length:Int)) then (n,[a3R m ⟨8,0,0,0,(n.Known.length:Int),zE,[]⟩],[])
  else a2D n m.Entry
def a6k (n:a6) (m:a8):a6×List a8 :=
  bif n.Phase==0||(decide (4≤n.Queue.length)||U7 n.Known m.Entry.Req) then (n,[]) else Z6 { n with Queue:=n.Queue++[m.Entry] }
def a29 (n:a6) (m:a8) (s:Nat):List a8:=match n.Known[s]? with
  | some e=>[a3R m ⟨5,0,0,0,(s:Int),e,[]⟩]
  | none=>[]
def a6e (n:a6) (m:a8):List a8:=((List.range (n.Known.length - m.Slot.toNat)).map fun j=>a29 n m (m.Slot.toNat+j)).flatten
def a2G (n:a6) (m:a8):a6×List a8×List e9 :=
  bif m.Kind==1 then ((a57 n m).1,(a57 n m).2,[]) else
  bif m.Kind==2 then ((a5m n m).1,(a5m n m).2,[]) else
  bif m.Kind==3 then ((a5I n m).1,(a5I n m).2,[]) else
  bif m.Kind==4 then a8d n m else
  bif m.Kind==5 then a7v n m else
  bif m.Kind==6 then (a07 { n with Acc:=(R7 n.Acc m.Bal).getD n.Acc } m.Bal,[],[]) else
  bif m.Kind==7 then ((a6k n m).1,(a6k n m).2,[]) else
  bif m.Kind==8 then (n,a6e n m,[]) else (n,[],[])
def a0q (n:a6) (prog:List j6):a6×List a8 :=
  bif n.Busy||(n.Seq==1000||(z4 (l9 n.Known).1.Boxes prog).Code==3) then (n,[]) else
  bif n.Phase==2 then Z6 { n with Seq:=n.Seq+1,Busy:=true,Prog:=prog,Want:=⟨false,⟨n.Id,n.Seq+1⟩,z4 (l9 n.Known).1.Boxes prog⟩ }
  else ({ n with Seq:=n.Seq+1,Busy:=true,Prog:=prog,Want:=⟨false,⟨n.Id,n.Seq+1⟩,z4 (l9 n.Known).1.Boxes prog⟩ },
    bif n.Phase==0 then T2 n.Id ⟨7,0,0,0,0,⟨false,⟨n.Id,n.Seq+1⟩,z4 (l9 n.Known).1.Boxes prog⟩,[]⟩ else [])
def a4w (n:a6):a6×List a8 :=
  bif decide (a0a n.Acc.Promised n.Id<0) then (n,[]) else
  ({ b31 n with Acc:=⟨a0a n.Acc.Promised n.Id,n.Acc.Votes⟩,Phase:=1,Bal:=a0a n.Acc.Promised n.Id,From:=b0T n.Id,Best:=n.Acc.Votes },
    T2 n.Id ⟨1,0,0,a0a n.Acc.Promised n.Id,(n.Known.length:Int),zE,[]⟩)
def a3n (n:a6):a6×List a8 :=
  bif n.Phase==1 then (n,T2 n.Id ⟨8,0,0,0,(n.Known.length:Int),zE,[]⟩++T2 n.Id ⟨1,0,0,n.Bal,(n.Known.length:Int),zE,[]⟩) else
  bif n.Phase==2 then ((Z6 n).1,T2 n.Id ⟨8,0,0,0,(n.Known.length:Int),zE,[]⟩++(Z6 n).2) else
  bif n.Phase==3 then (n,T2 n.Id ⟨8,0,0,0,(n.Known.length:Int),zE,[]⟩++T2 n.Id ⟨3,0,0,n.Bal,(n.Known.length:Int),n.Cur,[]⟩) else
  bif n.Busy then (n,T2 n.Id ⟨8,0,0,0,(n.Known.length:Int),zE,[]⟩++T2 n.Id ⟨7,0,0,0,0,n.Want,[]⟩) else
  (n,T2 n.Id ⟨8,0,0,0,(n.Known.length:Int),zE,[]⟩)
def H5 (id:Int):a6:=⟨id,⟨0,[]⟩,[],0,0,0,[],[],zE,[],false,[],zE,[]⟩
def b0X (n:a6):a6:={ H5 n.Id with Acc:=n.Acc,Known:=n.Known,Seq:=n.Seq }
def a2t:f0:=⟨[H5 0,H5 1,H5 2],[],[],[]⟩
def a2i (w:f0) (l:List a8):f0:={ w with Net:=w.Net++l.take (40 - w.Net.length) }
def a6H (w:f0) (l:List e9):f0:={ w with Told:=w.Told++l.take (60 - w.Told.length) }
def a10 (w:f0) (i:Int) (n:a6):f0:={ w with Nodes:=w.Nodes.set i.toNat n }
def a4i (w:f0) (i:Int):f0:={ w with Net:=w.Net.take i.toNat++w.Net.drop (i.toNat+1) }
def Z0 (w:f0) (i:Int):a6:=w.Nodes.getD i.toNat (H5 0)
def b4r (w:f0) (i:Int) (prog:List j6):f0 :=
  bif decide (60≤w.Asked.length) then w else
  a2i (a10 (bif decide ((a0q (Z0 w i) prog).1.Seq>(Z0 w i).Seq) then { w with Asked:=w.Asked++[⟨(a0q (Z0 w i) prog).1.Want.Req,prog⟩] } else w) i (a0q (Z0 w i) prog).1) (a0q (Z0 w i) prog).2
def a9O (w:f0) (e:g8):f0:=bif decide (0≤e.A) then (match w.Net[e.A.toNat]? with
  | some m=>bif e.Kind==4 then a2i w [m] else bif e.Kind==3 then a4i w e.A else
    a6H (a2i (a10 (a4i w e.A) m.To (a2G (Z0 w m.To) m).1) (a2G (Z0 w m.To) m).2.1) (a2G (Z0 w m.To) m).2.2
  | none=>w) else w
def F7 (w:f0) (e:g8):f0 :=
  bif e.Kind==2||(e.Kind==3||e.Kind==4) then a9O w e else
  bif !j7 e.A 0 2 then w else
  bif e.Kind==1 then b4r w e.A e.Prog else
  bif e.Kind==5 then a2i (a10 w e.A (a4w (Z0 w e.A)).1) (a4w (Z0 w e.A)).2 else
  bif e.Kind==6 then a2i (a10 w e.A (a3n (Z0 w e.A)).1) (a3n (Z0 w e.A)).2 else
  bif e.Kind==7 then a10 w e.A (b0X (Z0 w e.A)) else w
def a6r (w:f0) (l:List g8):f0:=l.foldl F7 w
theorem a0b:G8 0:=⟨by decide,by decide⟩
theorem T5 {α:Type} {b:Nat} {ok:α→Prop}:v5 b ok ([]:List α):=⟨by simp,fun x hx=>by cases hx⟩
theorem a0G:E9 zE:=⟨⟨a0b,a0b⟩,T5,T5,a0b,a0b⟩
theorem c34:E9 eN:=⟨⟨a0b,a0b⟩,T5,T5,a0b,a0b⟩
theorem d1d:X1 v0:=⟨a0b,a0G⟩
theorem a52 {α R B:Type} {body:List α×Int→Option (b6 R (List α×Int) B)} (l:List α) (hl:n7 l) (f:List α→B)
    (h1 : ∀ (k:Nat) (h:k<l.length),body (l.take k,(k:Int))=some (.nxt (l.take k++[l[k]],i7 ((k:Int)+1))))
    (h2:body (l,(l.length:Int))=some (.brk (f l))):m5 body ([],0)=some (.brk (f l)):=by
  have h:=V4 (body:=body) (fun k=>(l.take k,(k:Int))) l.length (by
    intro k hk
    rw [h1 k hk,H6 hl hk,List.take_succ_eq_append_getElem hk])
  rw [show ((0:Nat):Int)=0 from rfl,List.take_zero] at h
  rw [h,List.take_length]
  exact D6 h2
theorem b3F {l:List d7} (h:v5 96 X1 l):a6o l=some l:=by
  have hf:n7 l:=h.fits (by decide)
  have hb:=h.1
  unfold a6o
  rw [a52 (body:=fun s:(List d7)×Int=>b0d l s.1 s.2) l hf (fun l=>l) (by
    intro k hk
    unfold b0d
    rw [u5 _ k hk,p9 hk]
    simp only [cond_true,Option.bind_some,a0h (h.2 _ (List.getElem_mem hk)).2]
    rw [o9 (by rw [List.length_take]; omega)]) (by
    unfold b0d
    rw [A5]; rfl)]
  rfl
theorem d5k {l:List d7} (h:v5 96 X1 l):b3f l=some (l,l):=by
  have hf:n7 l:=h.fits (by decide)
  have hb:=h.1
  unfold b3f
  rw [a52 (body:=fun s:(List d7)×Int=>a9T l s.1 s.2) l hf (fun l=>l) (by
    intro k hk
    unfold a9T
    rw [u5 _ k hk,p9 hk]
    simp only [cond_true,Option.bind_some,a0h (h.2 _ (List.getElem_mem hk)).2]
    rw [o9 (by rw [List.length_take]; omega)]) (by
    unfold a9T
    rw [A5]; rfl)]
  rfl
theorem c9a {e:b5} (h:E9 e):b3t e=some e:=by
  have h1:=h.2.1.1
  have h2:=h.2.2.1.1
  unfold b3t b7Q
  rw [o9 (by simp; omega),o9 (by simp; omega)]
  rfl
theorem d7c {l:List d7} (h:v5 96 X1 l):b2Z l=some l:=by
  have hf:n7 l:=h.fits (by decide)
  have hb:=h.1
  unfold b2Z
  rw [a52 (body:=fun s:(List d7)×Int=>b0g l s.1 s.2) l hf (fun l=>l) (by
    intro k hk
    unfold b0g
    rw [u5 _ k hk,p9 hk]
    simp only [cond_true,Option.bind_some,c9a (h.2 _ (List.getElem_mem hk)).2]
    rw [o9 (by rw [List.length_take]; omega)]) (by
    unfold b0g
    rw [A5]; rfl)]
  rfl
theorem b2L {m:a8} (h:a1V m):a5g m=some m:=by
  unfold a5g
  rw [a0h h.2.2.2.2.2.1,Option.bind_some,b3F h.2.2.2.2.2.2]
  rfl
theorem b02 {α:Type} {b:Nat} {ok:α→Prop} {l:List α} (h:v5 b ok l):(([]:List α).length+l.length) * b≤140737488355328:=by
  have:=h.1
  simp only [List.length_nil,Nat.zero_add]; omega
theorem a9A {n:a6} (h:Y1 n):a4y n=some n:=by
  obtain ⟨h1,h2,h3,h4,h5,h6,h7,h8,h9,h10,h11,h12,h13⟩:=h
  unfold a4y b6c
  rw [b3F h2.2,Option.bind_some,Option.bind_some,b7y h3,Option.bind_some,o9 (b02 h7),b3F h8,Option.bind_some,a0h h9,Option.bind_some,o9 (b02 h10),o9 (b02 h11),a0h h12,Option.bind_some,b7y h13]
  rfl
theorem b92 {a:s6} {b:Int}:a7C a b=match R7 a b with | some _=>none | none=>some (a,false):=by
  unfold a7C R7 b0S
  rw [a7N,Option.bind_some]
  cases j7 b 1 3000
  · rfl
  · by_cases h:b<a.Promised
    · simp [h,show ¬ a.Promised≤b by omega]
    · simp [h,show a.Promised≤b by omega]
theorem b1g {a:s6} {b:Int}:a40 a b=some (match R7 a b with | some x=>(x,true) | none=>(a,false)):=by
  unfold a40 R7 b0S
  rw [a7N,Option.bind_some]
  cases j7 b 1 3000
  · rfl
  · by_cases h:b<a.Promised
    · simp [h,show ¬ a.Promised≤b by omega]
    · simp [h,show a.Promised≤b by omega]
theorem c0w {a:s6} {b s:Int} {e:b5} (he:E9 e):b0r a b s e=match U6 a b s e with | some _=>none | none=>some (a,false):=by
  unfold b0r U6
  rw [a2q he.f,Option.bind_some,b92]
  by_cases h1:s<0
  · simp [h1,j7,show ¬ (0≤s∧s≤39) by omega]
  · by_cases h2:s≥40
    · simp [h1,h2,j7,show ¬ (0≤s∧s≤39) by omega]
    · simp only [h1,h2,decide_false,cond_false,j7,show (0≤s∧s≤39) by omega,and_self,decide_true,Bool.true_and]
      cases q9 e
      · rfl
      · simp only [Bool.not_true,cond_false,cond_true]
        cases R7 a b<;>rfl
theorem c4d (z0:Nat) (hs:z0<40) : ∀ (m:Nat) (vs:List d7),z0+1 - vs.length=m→m5 (fun s:List d7=>a5L (z0:Int) s) vs=some (.brk (a1I vs (z0+1)))
  | 0,vs,h=>by
    refine D6 ?_
    unfold a5L a1I
    rw [h,show decide ((vs.length:Int)≤(z0:Int))=false by simp; omega]
    simp
  | m+1,vs,h=>by
    have hb:a5L (z0:Int) vs=some (.nxt (vs++[v0])):=by
      unfold a5L
      rw [show decide ((vs.length:Int)≤(z0:Int))=true by simp; omega,cond_true,o9 (by omega)]
      rfl
    rw [M3 (body:=fun s:List d7=>a5L (z0:Int) s) hb,c4d z0 hs m (vs++[v0]) (by simp; omega)]
    congr 2
    unfold a1I
    rw [h,List.length_append,show z0+1 - (vs.length+[v0].length)=m by simp; omega,List.append_assoc]
    rfl
theorem c2W (vs:List d7) (n:Nat):(a1I vs n).length=max vs.length n:=by
  unfold a1I
  simp; omega
theorem c0y {a:s6} {b s:Int} {e:b5} (he:E9 e):a9c a b s e=some (match U6 a b s e with | some x=>(x,true) | none=>(a,false)):=by
  unfold a9c U6
  rw [a2q he.f,Option.bind_some,b92,b1g,Option.bind_some]
  by_cases h1:s<0
  · simp [h1,j7,show ¬ (0≤s∧s≤39) by omega]
  · by_cases h2:s≥40
    · simp [h1,h2,j7,show ¬ (0≤s∧s≤39) by omega]
    · simp only [h1,h2,decide_false,cond_false,j7,show (0≤s∧s≤39) by omega,and_self,decide_true,Bool.true_and]
      cases q9 e
      · rfl
      · simp only [Bool.not_true,cond_false,cond_true]
        cases R7 a b with
        | none=>rfl
        | some x =>
          obtain ⟨k,rfl⟩ : ∃ k:Nat,s=(k:Int):=⟨s.toNat,by omega⟩
          have hk:k<(a1I x.Votes (k+1)).length:=by rw [c2W]; omega
          simp only [a3G,Bool.not_true,cond_false,c4d k (by omega) _ _ rfl,Option.bind_some,b7.go,b5m,a0h he,p9 hk,Option.map_some,Int.toNat_natCast]
theorem b3B {n:a6} {q:g9} (h:n7 n.Known):a45 n q=some (U7 n.Known q):=by
  unfold a45
  rw [show m5 (fun s:Int=>a8A n q s) 0=_ from b6R (body:=fun s:Int=>a8A n q s) n.Known h (M5 q) (fun _=>true) () (by
      intro k hk
      unfold a8A b5O M5
      rw [u5 _ k hk,p9 hk]
      simp only [cond_true,Option.bind_some]
      cases n.Known[k].None<;>cases (([n.Known[k].Req.Who,n.Known[k].Req.Seq]:List Int)==[q.Who,q.Seq])<;>rfl) (by
      unfold a8A
      rw [A5]; rfl)]
  unfold U7
  cases hf:n.Known.find? (M5 q) with
  | none =>
    have:n.Known.any (M5 q)=false:=by
      rw [List.any_eq_false]; intro x hx; exact List.find?_eq_none.1 hf x hx
    rw [this]; rfl
  | some x =>
    have:n.Known.any (M5 q)=true:=List.any_eq_true.2 ⟨x,List.mem_of_find?_eq_some hf,List.find?_some hf⟩
    rw [this]; rfl
def a0V (id:Int) (m:a8) (o:List a8) (t:Int):List a8:=bif t != id then o++[{ m with From:=id,To:=t }] else o
theorem c0z (id:Int) (m:a8) (o:List a8) (t:Int):(a0V id m o t).length≤o.length+1:=by
  unfold a0V; cases t != id<;>simp
theorem a4Z {id:Int} (hid:0≤id∧id≤2) {m:a8} (h:a1V m):a2r id m=some (T2 id m):=by
  have e : ∀ (o:List a8) (t:Int),o.length≤3→0≤t→t<3→a3l id m o t=some (.nxt (a0V id m o t,t+1)):=by
    intro o t ho ht0 ht
    unfold a3l b9Z a0V
    rw [show decide (t<3)=true by simpa using ht,cond_true,b2L h,Option.bind_some,o9 (by omega),B0 (by omega) (by omega)]
    cases t != id<;>rfl
  have l1:=c0z id m [] 0
  have l2:=c0z id m (a0V id m [] 0) (0+1)
  have h0:=M3 (body:=fun s:(List a8)×Int=>a3l id m s.1 s.2) (s:=([],0)) (e [] 0 (by simp) (by omega) (by omega))
  have h1:=M3 (body:=fun s:(List a8)×Int=>a3l id m s.1 s.2) (s:=(a0V id m [] 0,0+1)) (e (a0V id m [] 0) (0+1) (by simp at l1; omega) (by omega) (by omega))
  have h2:=M3 (body:=fun s:(List a8)×Int=>a3l id m s.1 s.2) (s:=(a0V id m (a0V id m [] 0) (0+1),0+1+1)) (e (a0V id m (a0V id m [] 0) (0+1)) (0+1+1) (by simp at l1; omega) (by omega) (by omega))
  have h3:=D6 (body:=fun s:(List a8)×Int=>a3l id m s.1 s.2) (s:=(a0V id m (a0V id m (a0V id m [] 0) (0+1)) (0+1+1),0+1+1+1)) (show a3l id m _ (0+1+1+1)=_ from rfl)
  unfold a2r
  rw [h0,h1,h2,h3]
  obtain rfl | rfl | rfl:id=0∨id=1∨id=2:=by omega
  all_goals rfl
theorem c6G : ∀ (l:List Bool) (hl:n7 l) (m k:Nat) (c:Int),k+m=l.length→0≤c→c≤k→m5 (fun s:Int×Int=>a3J l s.1 s.2) (c,(k:Int))=some (.brk (c+(((l.drop k).filter (· == true)).length:Int)))
  | l,hl,0,k,c,hk,h0,h1=>by
    have:k=l.length:=by omega
    subst this
    refine D6 ?_
    show a3J l c (l.length:Int)=_
    unfold a3J
    rw [A5]; simp
  | l,hl,m+1,k,c,hk,h0,h1=>by
    have hlt:k<l.length:=by omega
    have hfl:(l.length:Int)≤140737488351232:=by have:=hl; unfold n7 at this; omega
    have hb:a3J l c (k:Int)=some (.nxt (c+(bif l[k] then 1 else 0),((k+1:Nat):Int))):=by
      unfold a3J b9P
      rw [u5 _ k hlt,p9 hlt,cond_true,Option.bind_some,H6 hl hlt]
      cases l[k]<;>simp only [cond_true,cond_false,Option.bind_some]<;>rw [B0 (by omega) (by omega)]
    rw [M3 (body:=fun s:Int×Int=>a3J l s.1 s.2) hb,c6G l hl m (k+1) _ (by omega) (by cases l[k]<;>simp<;>omega) (by cases l[k]<;>simp<;>omega),List.drop_eq_getElem_cons hlt]
    cases l[k]<;>simp
    omega
theorem c3s {l:List Bool} (h:n7 l):a8Y l=some (two l):=by
  unfold a8Y
  rw [show m5 (fun s:Int×Int=>a3J l s.1 s.2) (0,0)=_ from c6G l h l.length 0 0 (by omega) (by omega) (by omega)]
  simp only [Option.bind_some,b7.go,b4U,two,List.drop_zero]
  congr 1
  simp
  omega
theorem d31 {l:List d7} {s:Int} (h:v5 96 X1 l) (hl:l.length≤40) (hs:0≤s∧s≤40):b2c l s=some (List.replicate s.toNat v0++l):=by
  unfold b2c
  rw [o9 (by omega),b3F h,Option.bind_some,o9 (by simp; omega)]
  rfl
theorem b2i : ∀ a b:List d7,(I5 a b).length=max a.length b.length
  | [],b=>by simp [I5]
  | x::a,[]=>by simp [I5]
  | x::a,y::b=>by simp only [I5,List.length_cons,b2i a b]; omega
theorem b6m : ∀ (a b:List d7) (k:Nat),(I5 a b)[k]?=match a[k]?,b[k]? with
    | some x,some y=>some (bif decide (y.Bal>x.Bal) then y else x)
    | some x,none=>some x
    | none,some y=>some y
    | none,none=>none
  | [],b,k=>by simp [I5]; cases b[k]?<;>rfl
  | x::a,[],k=>by simp [I5]; cases (x::a)[k]?<;>rfl
  | x::a,y::b,0=>by simp [I5]
  | x::a,y::b,k+1=>by simp only [I5,List.getElem?_cons_succ]; exact b6m a b k
theorem c8Z {a b:List d7} {v:d7} (h:v∈I5 a b):v∈a∨v∈b:=by
  obtain ⟨k,hk⟩:=List.getElem?_of_mem h
  rw [b6m] at hk
  cases ha:a[k]? with
  | none =>
    cases hb:b[k]? with
    | none=>rw [ha,hb] at hk; cases hk
    | some y=>rw [ha,hb] at hk; injection hk with hk; subst hk; exact .inr (List.mem_of_getElem? hb)
  | some x =>
    cases hb:b[k]? with
    | none=>rw [ha,hb] at hk; injection hk with hk; subst hk; exact .inl (List.mem_of_getElem? ha)
    | some y =>
      rw [ha,hb] at hk
      simp only at hk
      cases hd:decide (y.Bal>x.Bal)
      · rw [hd] at hk; injection hk with hk; subst hk; exact .inl (List.mem_of_getElem? ha)
      · rw [hd] at hk; injection hk with hk; subst hk; exact .inr (List.mem_of_getElem? hb)
theorem d1e {a b:List d7} (ha:v5 96 X1 a) (hb:v5 96 X1 b) (hla:a.length≤80) (hlb:b.length≤80) (hz : ∀ v∈b,v.Bal≤0→v=v0):b4h a b=some (I5 a b):=by
  have hlen:=b2i a b
  unfold b4h
  rw [a52 (body:=fun s:(List d7)×Int=>a3T a b s.1 s.2) (I5 a b) (by unfold n7; omega) (fun l=>l) (by
    intro k hk
    have hget:=b6m a b k
    rw [List.getElem?_eq_getElem hk] at hget
    have hent : ∀ v,v∈a∨v∈b→E9 v.Entry:=fun v hv=>hv.elim (fun q=>(ha.2 v q).2) (fun q=>(hb.2 v q).2)
    have hj1 : ∀ v:d7,E9 v.Entry→b3H ((I5 a b).take k) (k:Int) v=some (.nxt ((I5 a b).take k++[v],i7 ((k:Int)+1))):=by
      intro v hv
      unfold b3H
      rw [a0h hv,Option.bind_some,o9 (by rw [List.length_take]; omega)]
    show a3T a b ((I5 a b).take k) (k:Int)=_
    have hkk:k<a.length∨k<b.length:=by omega
    have hstart:a3T a b ((I5 a b).take k) (k:Int)=b3u a b ((I5 a b).take k) (k:Int):=by
      unfold a3T
      by_cases h1:k<a.length
      · rw [u5 _ k h1]; rfl
      · rw [show decide ((k:Int)<(a.length:Int))=false by simp; omega,u5 _ k (by omega)]; rfl
    rw [hstart]
    unfold b3u
    by_cases h1:k<a.length
    · rw [u5 _ k h1,p9 h1]
      simp only [cond_true,Option.bind_some,b7.go]
      unfold b2p
      rw [List.getElem?_eq_getElem h1] at hget
      by_cases h2:k<b.length
      · rw [u5 _ k h2,p9 h2]
        rw [List.getElem?_eq_getElem h2] at hget
        simp only [cond_true,Option.bind_some]
        injection hget with hget
        rw [hget]
        cases decide (b[k].Bal>a[k].Bal)
        · simp only [cond_false,Option.bind_some,b7.go]
          exact hj1 _ (hent _ (.inl (List.getElem_mem h1)))
        · simp only [cond_true,Option.bind_some,b7.go]
          exact hj1 _ (hent _ (.inr (List.getElem_mem h2)))
      · rw [show decide ((k:Int)<(b.length:Int))=false by simp; omega]
        rw [List.getElem?_eq_none (by omega)] at hget
        injection hget with hget
        rw [hget]
        simp only [cond_false,Option.bind_some,b7.go]
        exact hj1 _ (hent _ (.inl (List.getElem_mem h1)))
    · have h2:k<b.length:=by omega
      rw [show decide ((k:Int)<(a.length:Int))=false by simp; omega]
      simp only [cond_false,Option.bind_some,b7.go]
      unfold b2p
      rw [u5 _ k h2,p9 h2]
      rw [List.getElem?_eq_none (by omega),List.getElem?_eq_getElem h2] at hget
      injection hget with hget
      rw [hget]
      simp only [cond_true,Option.bind_some]
      by_cases h3:b[k].Bal>0
      · rw [show decide (b[k].Bal>0)=true by simpa using h3]
        simp only [cond_true,Option.bind_some,b7.go]
        exact hj1 _ (hent _ (.inr (List.getElem_mem h2)))
      · have hv:=hz _ (List.getElem_mem h2) (by omega)
        rw [show decide (b[k].Bal>0)=false by simpa using h3]
        simp only [cond_false,Option.bind_some,b7.go]
        rw [hv]
        exact hj1 v0 a0G) (by
    show a3T a b (I5 a b) ((I5 a b).length:Int)=_
    unfold a3T
    rw [show decide (((I5 a b).length:Int)<(a.length:Int))=false by simp; omega,show decide (((I5 a b).length:Int)<(b.length:Int))=false by simp; omega]
    rfl)]
  rfl
theorem d9p {b who:Int} (hb:0≤b∧b≤3000) (hw:0≤who∧who≤2):b2D b who=some (a0a b who):=by
  have e : ∀ i:Int,1≤i→i≤3→a27 b who (b+i)=some (bif decide (b+i≤3000) then (bif Int.tmod (b+i) 3==who then .ret (b+i) else .nxt (b+(i+1))) else .brk ()):=by
    intro i h1 h3
    unfold a27
    rw [B0 (by omega) (by omega),show decide (b+i≤b+3)=true by simp; omega,cond_true,B0 (by omega) (by omega),Int.add_assoc]
    cases decide (b+i≤3000)
    · rfl
    · cases Int.tmod (b+i) 3==who<;>rfl
  have e4:a27 b who (b+4)=some (.brk ()):=by
    unfold a27
    rw [B0 (by omega) (by omega),show decide (b+4≤b+3)=false by simp]
    rfl
  have e1:=e 1 (by omega) (by omega)
  have e2:=e 2 (by omega) (by omega)
  have e3:=e 3 (by omega) (by omega)
  unfold b2D a0a
  rw [show decide (b<0)=false by simp; omega,show decide (b>3000)=false by simp; omega,show decide (who<0)=false by simp; omega,show decide (who≥3)=false by simp; omega,B0 (by omega) (by omega)]
  simp only [cond_false]
  have hb4:m5 (fun s:Int=>a27 b who s) (b+4)=some (.brk ()):=D6 e4
  have h3:m5 (fun s:Int=>a27 b who s) (b+3)=some (bif decide (b+3≤3000)&&(Int.tmod (b+3) 3==who) then .ret (b+3) else .brk ()):=by
    cases q:decide (b+3≤3000)
    · rw [q] at e3; exact D6 e3
    · rw [q] at e3
      cases t:Int.tmod (b+3) 3==who
      · rw [t] at e3; rw [M3 e3]; exact hb4
      · rw [t] at e3; exact a4z e3
  have h2:m5 (fun s:Int=>a27 b who s) (b+2)=some (bif decide (b+2≤3000)&&(Int.tmod (b+2) 3==who) then .ret (b+2) else bif decide (b+3≤3000)&&(Int.tmod (b+3) 3==who) then .ret (b+3) else .brk ()):=by
    cases q:decide (b+2≤3000)
    · rw [q] at e2
      rw [show decide (b+3≤3000)=false by simp at q ⊢; omega]
      exact D6 e2
    · rw [q] at e2
      cases t:Int.tmod (b+2) 3==who
      · rw [t] at e2; rw [M3 e2]; exact h3
      · rw [t] at e2; exact a4z e2
  have h1:m5 (fun s:Int=>a27 b who s) (b+1)=some (bif decide (b+1≤3000)&&(Int.tmod (b+1) 3==who) then .ret (b+1) else bif decide (b+2≤3000)&&(Int.tmod (b+2) 3==who) then .ret (b+2) else bif decide (b+3≤3000)&&(Int.tmod (b+3) 3==who) then .ret (b+3) else .brk ()):=by
    cases q:decide (b+1≤3000)
    · rw [q] at e1
      rw [show decide (b+2≤3000)=false by simp at q ⊢; omega,show decide (b+3≤3000)=false by simp at q ⊢; omega]
      exact D6 e1
    · rw [q] at e1
      cases t:Int.tmod (b+1) 3==who
      · rw [t] at e1; rw [M3 e1]; exact h2
      · rw [t] at e1; exact a4z e1
  rw [h1]
  cases decide (b+1≤3000)&&(Int.tmod (b+1) 3==who)<;>cases decide (b+2≤3000)&&(Int.tmod (b+2) 3==who)<;>cases decide (b+3≤3000)&&(Int.tmod (b+3) 3==who)<;>rfl
theorem q8 {n:Int} (h : -1000000000≤n∧n≤1000000000):G8 n:=⟨by omega,by omega⟩
theorem a00 {α:Type} {b:Nat} {ok:α→Prop} {l:List α} (hl:l.length * b≤1000000000) (h : ∀ x∈l,ok x):v5 b ok l:=⟨by omega,h⟩
theorem d36 {α:Type} {b:Nat} {ok:α→Prop} {l l':List α} (h:v5 b ok l) (hl:l'.length≤l.length) (hs : ∀ x∈l',x∈l):v5 b ok l' :=
  ⟨Nat.le_trans (Nat.mul_le_mul_right _ hl) h.1,fun x hx=>h.2 x (hs x hx)⟩
theorem d7U {l:List b5} {q:g9}:U7 l q=(l.findIdx? (M5 q)).isSome:=by
  unfold U7
  cases h:l.findIdx? (M5 q) with
  | none =>
    rw [List.findIdx?_eq_none_iff] at h
    rw [Option.isSome_none,List.any_eq_false]
    intro x hx; rw [h x hx]; simp
  | some k =>
    rw [List.findIdx?_eq_some_iff_getElem] at h
    obtain ⟨hk,h1,_⟩:=h
    rw [Option.isSome_some]
    exact List.any_eq_true.2 ⟨l[k],List.getElem_mem hk,h1⟩
theorem d2q {n:a6} (h:v5 88 E9 n.Known) (hok:H4 n.Known=true):b2u n=some (a08 n):=by
  obtain ⟨hl,he⟩:=a1K hok
  have hf:n7 n.Known:=h.fits (by decide)
  unfold b2u a08
  rw [b3B hf,Option.bind_some,d7U]
  cases n.Busy
  · rfl
  simp only [Bool.not_true,cond_false,cond_true]
  cases hfi:n.Known.findIdx? (M5 n.Want.Req) with
  | none=>rfl
  | some kk =>
  simp only [Option.isSome_some,Bool.not_true,cond_false,b1V,Option.bind_some]
  have:=c3e (body:=fun s:(List g7)×Int×Int×List d9=>a7L n s.1 s.2.1 s.2.2.1 s.2.2.2) (fun k=>((l9 (n.Known.take k)).1.Boxes,(k:Int),(l9 (n.Known.take k)).1.At,(l9 (n.Known.take k)).1.Dones)) n.Known (M5 n.Want.Req) (fun k=>(a95 n,[⟨n.Id,n.Want.Req,a2I n.Known k,bif a2I n.Known k==0 then (match n.Known[k]? with | some e=>e.Run.Val | none=>0) else 0⟩])) () (by
      intro k hk
      obtain ⟨h1,h2,h3⟩:=X4 hl he k (by omega)
      unfold a7L b5B M5 a2I
      rw [u5 _ k hk,p9 hk,c5R hl he hk,a2H hk,← H6 hf hk,List.getElem?_eq_getElem hk]
      simp only [cond_true,Option.bind_some]
      rw [show (⟨(l9 (n.Known.take k)).1.At,(l9 (n.Known.take k)).1.Boxes,(l9 (n.Known.take k)).1.Dones⟩:j4)=(l9 (n.Known.take k)).1 from rfl,b4y h1 (by omega) (List.all_eq_true.1 he _ (List.getElem_mem hk)) (h.2 _ (List.getElem_mem hk)).f,Option.bind_some]
      cases n.Known[k].None<;>cases (([n.Known[k].Req.Who,n.Known[k].Req.Seq]:List Int)==[n.Want.Req.Who,n.Want.Req.Seq])<;>first | rfl | skip
      simp only [cond_false,Bool.not_true,Bool.not_false,Bool.true_and,cond_true,Option.getD_some]
      cases ((apply (l9 (n.Known.take k)).1 n.Known[k]).2==0)<;>rfl) (by
      unfold a7L
      rw [A5]; rfl)
  rw [List.take_zero,hfi] at this
  rw [show m5 (fun s:(List g7)×Int×Int×List d9=>a7L n s.1 s.2.1 s.2.2.1 s.2.2.2) (N2.Boxes,0,N2.At,N2.Dones)=_ from this]
  simp only [Option.bind_some,b7.go,a6R,hfi]
  all_goals rfl
theorem d5x {l:List d7} (hf:n7 l) (k:Nat):b4g l (k:Int)=some ((l.drop k).any fun v=>decide (v.Bal>0)):=by
  have key : ∀ (m k:Nat),l.length - k=m→m5 (fun s:Int=>a6c l s) (k:Int)=some (bif (l.drop k).any (fun v=>decide (v.Bal>0)) then .ret true else .brk ()):=by
    intro m
    induction m with
    | zero =>
      intro k hk
      rw [List.drop_eq_nil_of_le (by omega)]
      refine D6 ?_
      unfold a6c
      rw [show decide ((k:Int)<(l.length:Int))=false by simp; omega]
      rfl
    | succ m ih =>
      intro k hk
      have hlt:k<l.length:=by omega
      rw [List.drop_eq_getElem_cons hlt,List.any_cons]
      cases hd:decide (l[k].Bal>0)
      · rw [M3 (body:=fun s:Int=>a6c l s) (t:=((k+1:Nat):Int)) (by
          unfold a6c
          rw [u5 _ k hlt,p9 hlt,cond_true,Option.bind_some,hd,H6 hf hlt]; rfl),ih (k+1) (by omega),Bool.false_or]
      · refine a4z ?_
        unfold a6c
        rw [u5 _ k hlt,p9 hlt,cond_true,Option.bind_some,hd]; rfl
  unfold b4g
  rw [key _ k rfl]
  cases (l.drop k).any fun v=>decide (v.Bal>0)<;>rfl
theorem c4y (n:a6) (hk:n7 n.Known) : ∀ (q:List b5),v5 88 E9 q→m5 (fun s:List b5=>a6Z n s) q=some (match a0x n.Known q with
    | (q',some e)=>.ret ({ n with Queue:=q' },e,true)
    | (q',none)=>.brk q')
  | [],h=>D6 rfl
  | e::q,h=>by
    have hb:=h.1
    rw [List.length_cons,Nat.succ_mul] at hb
    have h':v5 88 E9 q:=⟨by omega,fun x hx=>h.2 x (List.mem_cons_of_mem _ hx)⟩
    have ht:(([]:List b5)++((e::q).drop (0+(1:Int).toNat)).take ((e::q).length - (1:Int).toNat))=q:=by
      simp
    have hs:a6Z n (e::q)=some (bif U7 n.Known e.Req then .nxt q else .ret ({ n with Queue:=q },e,true)):=by
      unfold a6Z
      rw [show decide (((e::q).length:Int)>0)=true by simp,cond_true,show idx (e::q) 0=some e from rfl,Option.bind_some,o9 (by simp; omega),o9 (by simp; omega),ht,b3B (n:={ n with Queue:=q }) hk,Option.bind_some]
      cases U7 n.Known e.Req<;>rfl
    unfold a0x
    cases hd:U7 n.Known e.Req
    · rw [hd] at hs; exact a4z hs
    · rw [hd] at hs
      rw [M3 (body:=fun s:List b5=>a6Z n s) hs]
      exact c4y n hk q h'
def b09 (x:a6×Option b5):a6×b5×Bool:=match x with
  | (n,some e)=>(n,e,true)
  | (n,none)=>(n,zE,false)
theorem d4C {n:a6} (h:Y1 n):b22 n=some (b09 (a2V n)):=by
  obtain ⟨h1,h2,h3,h4,h5,h6,h7,h8,h9,h10,h11,h12,h13⟩:=h
  have hk:n7 n.Known:=h3.fits (by decide)
  have j1:b4K n=some (b09 ({ n with Queue:=(a0x n.Known n.Queue).1 },(a0x n.Known n.Queue).2)):=by
    unfold b4K
    rw [c4y n hk _ h13]
    obtain ⟨q,o⟩:=a0x n.Known n.Queue
    cases o<;>rfl
  have j2:b4m n=some (b09 (a5N n)):=by
    unfold b4m a5N
    rw [d5x (h8.fits (by decide)),Option.bind_some,b3B hk,a0h h12]
    generalize (({ n with Queue:=(a0x n.Known n.Queue).1 },(a0x n.Known n.Queue).2):a6×Option b5)=X at j1 ⊢
    cases (n.Best.drop n.Known.length).any fun v=>decide (v.Bal>0)
    · simp only [cond_false]
      cases n.Busy
      · exact j1
      · cases U7 n.Known n.Want.Req
        · rfl
        · exact j1
    · rfl
  unfold b22 a2V
  by_cases hl:n.Known.length<n.Best.length
  · rw [u5 _ _ hl,p9 hl,List.getElem?_eq_getElem hl]
    simp only [cond_true,Option.bind_some]
    cases decide (n.Best[n.Known.length].Bal>0)
    · exact j2
    · simp only [cond_true,a0h (h8.2 _ (List.getElem_mem hl)).2,Option.bind_some,b7.go]
      rfl
  · rw [show decide ((n.Known.length:Int)<(n.Best.length:Int))=false by simp; omega,List.getElem?_eq_none (by omega)]
    exact j2
theorem c8H (known:List b5) : ∀ (q:List b5),(a0x known q).1.length≤q.length∧(∀ x∈(a0x known q).1,x∈q) ∧ ∀ e,(a0x known q).2=some e→e∈q∧U7 known e.Req=false∧(a0x known q).1.length<q.length
  | []=>⟨Nat.le_refl _,fun x hx=>hx,fun e he=>by cases he⟩
  | e::q=>by
    unfold a0x
    cases hk:U7 known e.Req
    · refine ⟨by simp,fun x hx=>by simpa using .inr hx,fun e' he => ?_⟩
      injection he with he
      subst he
      exact ⟨by simp,hk,by simp⟩
    · obtain ⟨a,b,c⟩:=c8H known q
      refine ⟨by simp only [cond_true,List.length_cons]; omega,fun x hx=>List.mem_cons_of_mem _ (b x hx),fun e' he => ?_⟩
      obtain ⟨x,y,z⟩:=c e' he
      exact ⟨List.mem_cons_of_mem _ x,y,by simp only [cond_true,List.length_cons]; omega⟩
inductive a2U (n:a6):b5→Prop
  | best (v) (h:n.Best[n.Known.length]?=some v) (hb:v.Bal>0):a2U n v.Entry
  | gap (v) (h:v∈n.Best.drop n.Known.length) (hb:v.Bal>0) (hn : ∀ v,n.Best[n.Known.length]?=some v → ¬ v.Bal>0):a2U n eN
  | want (h:n.Busy=true) (hk:U7 n.Known n.Want.Req=false) (hn : ∀ v∈n.Best.drop n.Known.length,¬ v.Bal>0):a2U n n.Want
  | queue (e) (h:e∈n.Queue) (hk:U7 n.Known e.Req=false) (hn : ∀ v∈n.Best.drop n.Known.length,¬ v.Bal>0):a2U n e
theorem b8i (n:a6) : ∃ q:List b5,(a2V n).1={ n with Queue:=q }∧q.length≤n.Queue.length∧(∀ x∈q,x∈n.Queue) ∧ ∀ e,(a2V n).2=some e→a2U n e:=by
  have rest:(∀ v,n.Best[n.Known.length]?=some v → ¬ v.Bal>0) → ∃ q:List b5,(a5N n).1={ n with Queue:=q }∧q.length≤n.Queue.length∧(∀ x∈q,x∈n.Queue) ∧ ∀ e,(a5N n).2=some e→a2U n e:=by
    intro hn
    unfold a5N
    cases ha:(n.Best.drop n.Known.length).any fun v=>decide (v.Bal>0)
    · have hnv : ∀ v∈n.Best.drop n.Known.length,¬ v.Bal>0:=fun v hv=>by simpa using List.any_eq_false.1 ha v hv
      cases hb:n.Busy && !U7 n.Known n.Want.Req
      · obtain ⟨a,b,c⟩:=c8H n.Known n.Queue
        exact ⟨_,rfl,a,b,fun e he=>.queue e (c e he).1 (c e he).2.1 hnv⟩
      · simp only [Bool.and_eq_true,Bool.not_eq_true'] at hb
        refine ⟨n.Queue,rfl,Nat.le_refl _,fun _ h=>h,fun e he => ?_⟩
        injection he with he; subst he
        exact .want hb.1 hb.2 hnv
    · obtain ⟨v,hv,hb⟩:=List.any_eq_true.1 ha
      refine ⟨n.Queue,rfl,Nat.le_refl _,fun _ h=>h,fun e he => ?_⟩
      injection he with he; subst he
      exact .gap v hv (by simpa using hb) hn
  unfold a2V
  cases hg:n.Best[n.Known.length]? with
  | none=>exact rest (by rw [hg]; simp)
  | some v =>
    simp only
    cases hb:decide (v.Bal>0)
    · exact rest (by rw [hg]; intro w hw; injection hw with hw; subst hw; simpa using hb)
    · refine ⟨n.Queue,rfl,Nat.le_refl _,fun _ h=>h,fun e he => ?_⟩
      injection he with he; subst he
      exact .best v hg (by simpa using hb)
theorem a2U.ok {n:a6} (h:Y1 n) {e:b5} (hn:a2U n e):E9 e:=by
  cases hn with
  | best v hv hb=>exact (h.2.2.2.2.2.2.2.1.2 v (List.mem_of_getElem? hv)).2
  | gap=>exact c34
  | want=>exact h.2.2.2.2.2.2.2.2.2.2.2.1
  | queue e hq=>exact h.2.2.2.2.2.2.2.2.2.2.2.2.2 e hq
theorem a5P {k b s:Int} {e:b5} {vs:List d7} (hk:G8 k) (hb:G8 b) (hs:G8 s) (he:E9 e) (hv:v5 96 X1 vs):a1V ⟨k,0,0,b,s,e,vs⟩:=⟨hk,a0b,a0b,hb,hs,he,hv⟩
theorem c76 {id:Int} (h:0≤id∧id≤2) : ∃ y,idx (List.replicate (3:Int).toNat false) id=some y:=by
  obtain rfl | rfl | rfl:id=0∨id=1∨id=2:=by omega
  all_goals exact ⟨false,rfl⟩
theorem a9g {n:a6} (h:Y1 n) (hid:0≤n.Id∧n.Id≤2):a4e n=some (Z6 n):=by
  unfold a4e Z6
  rw [show decide ((n.Known.length:Int)≥40)=decide (40≤n.Known.length) by simp; omega]
  cases n.Phase != 2
  · simp only [cond_false,Bool.false_or]
    cases hlt:decide (40≤n.Known.length)
    · simp only [cond_false,d4C h,Option.bind_some]
      obtain ⟨q,hq,hql,hqm,hqe⟩:=b8i n
      cases hx:a2V n with
      | mk x o =>
      rw [hx] at hq hqe
      have hq:x={ n with Queue:=q }:=hq
      cases o with
      | none=>rfl
      | some e =>
        have he:=(hqe e rfl).ok h
        have hlen:n.Known.length<40:=by simpa using hlt
        subst hq
        simp only [b09,Bool.not_true,cond_false,c0w he,c0y he,a9R]
        cases U6 n.Acc n.Bal (n.Known.length:Int) e with
        | none=>rfl
        | some a =>
          obtain ⟨y,hy⟩:=c76 hid
          simp only [a3G,Option.bind_some,Bool.not_true,cond_false,a0h he,hy]
          rw [o9 (by omega),a4Z hid (a5P (q8 (by omega)) h.2.2.2.2.2.1 (q8 (by omega)) he T5)]
          rfl
    · rfl
  · rfl
theorem d6T {n:a6} (h:Y1 n):Y1 (a95 n):=by
  obtain ⟨h1,h2,h3,h4,h5,h6,h7,h8,h9,h10,h11,h12,h13⟩:=h
  exact ⟨h1,h2,h3,h4,h5,h6,h7,h8,h9,h10,T5,a0G,h13⟩
theorem c88 {n:a6} (h:Y1 n) {e:b5} (he:E9 e) (hl:n.Known.length≤40):Y1 (X3 n e):=by
  obtain ⟨h1,h2,h3,h4,h5,h6,h7,h8,h9,h10,h11,h12,h13⟩:=h
  have hk:v5 88 E9 (n.Known++[e]):=a00 (by simp; omega) (by
    intro x hx
    rcases List.mem_append.1 hx with q | q
    · exact h3.2 x q
    · rw [List.mem_singleton.1 q]; exact he)
  unfold X3
  cases n.Phase==3
  · exact ⟨h1,h2,hk,h4,h5,h6,h7,h8,h9,h10,h11,h12,h13⟩
  · exact ⟨h1,h2,hk,h4,q8 (n:=2) (by omega),h6,h7,h8,a0G,T5,h11,h12,h13⟩
theorem b3e (n:a6):(a08 n=(n,[])) ∨ ∃ k,n.Busy=true∧n.Known.findIdx? (M5 n.Want.Req)=some k∧a08 n=(a95 n,[⟨n.Id,n.Want.Req,a2I n.Known k,bif a2I n.Known k==0 then a6R n.Known n.Want.Req else 0⟩]):=by
  unfold a08
  cases n.Busy
  · exact .inl rfl
  · cases h:n.Known.findIdx? (M5 n.Want.Req) with
    | none=>exact .inl rfl
    | some k=>exact .inr ⟨k,rfl,rfl,rfl⟩
theorem d2P {n:a6} (h:Y1 n):Y1 (a08 n).1:=by
  rcases b3e n with q | ⟨k,_,_,q⟩<;>rw [q]
  · exact h
  · exact d6T h
theorem c11 (n:a6):(a08 n).1.Id=n.Id:=by
  rcases b3e n with q | ⟨k,_,_,q⟩<;>rw [q]; rfl
theorem c8a (n:a6) (e:b5):(X3 n e).Id=n.Id:=by
  unfold X3; cases n.Phase==3<;>rfl
theorem d8V (n:a6) (e:b5):(X3 n e).Known=n.Known++[e]:=by
  unfold X3; cases n.Phase==3<;>rfl
theorem c3U {n:a6} (h:Y1 n) (hid:0≤n.Id∧n.Id≤2) (hk:H4 n.Known=true) (hl:n.Known.length<40) {e:b5} (he:E9 e) (hok:q9 e=true):a87 n e=some (a2D n e):=by
  have hkn:=c88 h he (by omega)
  have hko:H4 (X3 n e).Known=true:=by
    rw [d8V]
    obtain ⟨a,b⟩:=a1K hk
    unfold H4
    simp only [List.length_append,List.length_singleton,List.all_append,List.all_cons,List.all_nil,b,hok,Bool.and_true,Bool.and_self,decide_eq_true_eq]
    omega
  have hj : ∀ (p:Int) (c:b5) (vs:List Bool),(⟨n.Id,n.Acc,n.Known++[e],n.Seq,p,n.Bal,n.From,n.Best,c,vs,n.Busy,n.Prog,n.Want,n.Queue⟩:a6)=X3 n e→b3a n e vs c.Req.Who c.Req.Seq c.Run.Reads c.Run.Puts c.Run.Val c.Run.Code p c.None=some (a2D n e):=by
    intro p c vs hq
    unfold b3a
    rw [show (a6.mk n.Id n.Acc (n.Known++[e]) n.Seq p n.Bal n.From n.Best (b5.mk c.None (g9.mk c.Req.Who c.Req.Seq) (i6.mk c.Run.Reads c.Run.Puts c.Run.Val c.Run.Code)) vs n.Busy n.Prog n.Want n.Queue)=X3 n e from hq,d2q hkn.2.2.1 hko,Option.bind_some,a9g (d2P hkn) (by rw [c11,c8a]; exact hid),Option.bind_some]
    rfl
  unfold a87
  rw [a0h he,Option.bind_some,o9 (by omega)]
  cases hp:n.Phase==3
  · exact hj n.Phase n.Cur n.Votes (by unfold X3; rw [hp]; rfl)
  · exact hj 2 zE [] (by unfold X3; rw [hp]; rfl)
theorem c82 {r:i6} (h:R9 r=true):r.Reads.length≤4:=by
  have h0:a54 r.Reads=true:=by
    rw [a8Q] at h
    simp only [Bool.and_eq_true] at h
    exact h.2.2.2.2.1
  obtain ⟨h1,h2⟩:=c67.1 h0
  let ps:List m4:=r.Reads.map fun x=>⟨x.Box,0⟩
  have hp : ∀ p∈ps,a2d p:=by
    intro p hp
    obtain ⟨x,hx,rfl⟩:=List.mem_map.1 hp
    exact ⟨(h1 x hx).1,(h1 x hx).2.1,by simp,by simp⟩
  have hpw:ps.Pairwise fun p q=>p.Box≠q.Box:=List.pairwise_map.2 h2
  have hl:=b8d hp
  have a:=a31 hpw 0
  have b:=a31 hpw 1
  have c:=a31 hpw 2
  have d:=a31 hpw 3
  have:ps.length=r.Reads.length:=List.length_map ..
  omega
theorem d0U {r:i6} (h:a3A r ⟨[],[],0,0⟩=true):r=⟨[],[],0,0⟩:=(c2t _ _).1 h
theorem d9d {e:b5} (h:q9 e=true) (hn:e.None=true):e=eN:=by
  unfold q9 at h
  rw [hn] at h
  simp only [cond_true,Bool.and_eq_true,beq_iff_eq,List.cons.injEq,and_true] at h
  obtain ⟨⟨h1,h2⟩,h3⟩:=h
  have h4:=d0U h3
  clear h3
  obtain ⟨n,⟨a,b⟩,r⟩:=e
  simp only at hn h1 h2 h4
  subst hn h1 h2 h4
  rfl
theorem d54 {r:i6} (h:R9 r=true):b35 r:=by
  obtain ⟨h1,h2,_,h4,h5⟩:=a5i h
  have r4:=c82 h
  have p4:=d3S h
  exact ⟨a00 (by omega) fun x hx=>by have:=h4 x hx; exact ⟨q8 (by omega),q8 (by omega)⟩,
    a00 (by omega) fun x hx=>by have:=h5 x hx; exact ⟨q8 (by omega),q8 (by omega)⟩,q8 (by omega),q8 (by omega)⟩
theorem a2p {e:b5} (h:q9 e=true):E9 e:=by
  cases hn:e.None with
  | true=>rw [d9d h hn]; exact c34
  | false =>
    obtain ⟨h1,h2,h3,_⟩:=a65 h hn
    exact ⟨⟨q8 (by omega),q8 (by omega)⟩,d54 h3⟩
theorem c1y {l:List b5} (hl:l.length≤1000) (h : ∀ e∈l,q9 e=true):v5 88 E9 l:=a00 (by omega) fun e he=>a2p (h e he)
def VI (v:d7):Prop:=v=v0∨(1≤v.Bal∧v.Bal≤3000∧q9 v.Entry=true)
theorem d3C {v:d7}:a4F v=true↔VI v:=by
  unfold a4F VI
  by_cases hb:v.Bal=0
  · simp only [hb,beq_self_eq_true,cond_true,a3s]
    constructor
    · intro h; left; obtain ⟨b,e⟩:=v; simp only at hb h; subst hb h; rfl
    · rintro (h | h)
      · rw [h]; rfl
      · omega
  · have:(v.Bal==0)=false:=by simpa using hb
    simp only [this,cond_false,Bool.and_eq_true,R0]
    constructor
    · intro h; exact .inr ⟨h.1.1,h.1.2,h.2⟩
    · rintro (h | h)
      · rw [h] at hb; exact absurd rfl hb
      · exact ⟨⟨h.1,h.2.1⟩,h.2.2⟩
theorem VI.ok {v:d7} (h:VI v):X1 v:=by
  rcases h with rfl | ⟨h1,h2,h3⟩
  · exact d1d
  · exact ⟨q8 (by omega),a2p h3⟩
theorem VI.zero {v:d7} (h:VI v) (hb:v.Bal≤0):v=v0:=by
  rcases h with rfl | ⟨h1,_⟩
  · rfl
  · omega
theorem VI.pos {v:d7} (h:VI v) (hb:v.Bal>0):q9 v.Entry=true:=by
  rcases h with rfl | ⟨_,_,h⟩
  · exact absurd hb (by decide)
  · exact h
theorem a5k {l:List d7} (hl:l.length≤1000) (h : ∀ v∈l,VI v):v5 96 X1 l:=a00 (by omega) fun v hv=>(h v hv).ok
theorem b0D {l:List d7}:a1n l=true↔l.length≤40 ∧ ∀ v∈l,VI v:=by
  unfold a1n
  simp only [Bool.and_eq_true,decide_eq_true_eq,List.all_eq_true,d3C]
structure d21 (id bal pr:Int) (best:List d7):Prop where
  b1:1≤bal
  b2:bal≤3000
  mod:Int.tmod bal 3=id
  pr:bal≤pr
  bl:best.length≤40
  bs : ∀ v∈best,VI v
abbrev Own (n:a6):Prop:=d21 n.Id n.Bal n.Acc.Promised n.Best
def a2f (n:a6):Prop :=
  (n.Phase=0∧n.Bal=0∧n.From=[]∧n.Best=[]∧n.Cur=zE∧n.Votes=[]) ∨
  (n.Phase=1∧Own n∧n.From.length=3∧n.From[n.Id.toNat]?=some true∧n.Cur=zE∧n.Votes=[]) ∨
  (n.Phase=2∧Own n∧n.From=[]∧n.Cur=zE∧n.Votes=[]) ∨
  (n.Phase=3∧Own n∧n.From=[]∧q9 n.Cur=true∧n.Votes.length=3∧n.Votes[n.Id.toNat]?=some true∧n.Known.length<40)
def b9G (n:a6):Prop :=
  (n.Busy=true∧L0 n.Prog=true∧q9 n.Want=true∧n.Want.None=false∧n.Want.Req=⟨n.Id,n.Seq⟩)∨(n.Busy=false∧n.Prog=[]∧n.Want=zE)
structure NI (n:a6):Prop where
  id:0≤n.Id∧n.Id≤2
  pr:0≤n.Acc.Promised∧n.Acc.Promised≤3000
  vl:n.Acc.Votes.length≤40
  vs : ∀ v∈n.Acc.Votes,VI v∧v.Bal≤n.Acc.Promised
  kl:n.Known.length≤40
  ks : ∀ e∈n.Known,q9 e=true
  sq:0≤n.Seq∧n.Seq≤1000
  ql:n.Queue.length≤4
  qs : ∀ e∈n.Queue,q9 e=true∧e.None=false
  ld:a2f n
  wt:b9G n
theorem a9r {α:Type} {l:List α}:((l.length:Int)==0)=true↔l=[]:=by
  rw [beq_iff_eq]
  constructor
  · intro h; exact List.eq_nil_of_length_eq_zero (by omega)
  · rintro rfl; rfl
theorem d5G {α:Type} {l:List α}:((l.length:Int)=0)↔l=[]:=by rw [← a9r,beq_iff_eq]
theorem c0M {l:List Bool} {id:Int} (h:0≤id∧id≤2):a5V l id=true↔l.length=3∧l[id.toNat]?=some true:=by
  unfold a5V b17
  have e:idx l id=l[id.toNat]?:=by unfold idx; rw [if_pos h.1]
  rw [e,Bool.and_eq_true,beq_iff_eq]
  constructor
  · rintro ⟨h1,h2⟩
    refine ⟨by omega,?_⟩
    cases hq:l[id.toNat]? with
    | none=>rw [hq] at h2; cases h2
    | some b=>rw [hq] at h2; simp at h2; rw [h2]
  · rintro ⟨h1,h2⟩
    exact ⟨by omega,by rw [h2]; rfl⟩
theorem b6p {n:a6}:a4J n=true↔n.Cur=zE∧n.Votes=[]:=by
  unfold a4J
  rw [Bool.and_eq_true,a3s,a9r]
theorem c8J {n:a6} (hid:0≤n.Id∧n.Id≤2):a5D n=true↔a2f n:=by
  have hown:(a12 n.Bal==n.Id)=true∧n.Bal≤n.Acc.Promised∧a1n n.Best=true↔Own n:=by
    rw [b0D]
    constructor
    · rintro ⟨h1,h2,h3⟩
      have hb:=R0.1 (c79 (R0.2 hid) h1)
      unfold a12 at h1
      rw [R0.2 hb] at h1
      exact ⟨hb.1,hb.2,by simpa using h1,h2,h3.1,h3.2⟩
    · intro h
      refine ⟨?_,h.pr,h.bl,h.bs⟩
      unfold a12
      rw [R0.2 ⟨h.b1,h.b2⟩]
      simpa using h.mod
  unfold a5D a2f
  by_cases p0:n.Phase=0
  · simp only [p0,beq_self_eq_true,cond_true,Bool.and_eq_true,b6p,beq_iff_eq,d5G]
    constructor
    · rintro ⟨a,b,c,d,e⟩; exact .inl ⟨trivial,a,b,c,d,e⟩
    · rintro (h | h | h | h)
      · exact ⟨h.2.1,h.2.2.1,h.2.2.2.1,h.2.2.2.2.1,h.2.2.2.2.2⟩
      all_goals exact absurd h.1 (by omega)
  · have q0:(n.Phase==0)=false:=by simpa using p0
    simp only [q0,cond_false,Bool.and_eq_true,decide_eq_true_eq]
    rw [← and_assoc,← and_assoc,and_assoc (a:=(a12 n.Bal==n.Id)=true),hown]
    by_cases p1:n.Phase=1
    · simp only [p1,beq_self_eq_true,cond_true,Bool.and_eq_true,c0M hid,b6p]
      constructor
      · rintro ⟨a,⟨b,c⟩,d,e⟩; exact .inr (.inl ⟨trivial,a,b,c,d,e⟩)
      · rintro (h | h | h | h)
        · exact absurd h.1 (by omega)
        · exact ⟨h.2.1,⟨h.2.2.1,h.2.2.2.1⟩,h.2.2.2.2.1,h.2.2.2.2.2⟩
        all_goals exact absurd h.1 (by omega)
    · have q1:(n.Phase==1)=false:=by simpa using p1
      by_cases p2:n.Phase=2
      · have q2:(n.Phase==2)=true:=by simpa using p2
        simp only [q1,q2,cond_true,cond_false,Bool.and_eq_true,a9r,b6p]
        constructor
        · rintro ⟨a,b,c,d⟩; exact .inr (.inr (.inl ⟨p2,a,b,c,d⟩))
        · rintro (h | h | h | h)
          · exact absurd h.1 (by omega)
          · exact absurd h.1 (by omega)
          · exact ⟨h.2.1,h.2.2.1,h.2.2.2.1,h.2.2.2.2⟩
          · exact absurd h.1 (by omega)
      · have q2:(n.Phase==2)=false:=by simpa using p2
        by_cases p3:n.Phase=3
        · have q3:(n.Phase==3)=true:=by simpa using p3
          simp only [q1,q2,q3,cond_true,cond_false,Bool.and_eq_true,a9r,c0M hid,decide_eq_true_eq]
          constructor
          · rintro ⟨a,b,c,⟨d,e⟩,f⟩; exact .inr (.inr (.inr ⟨p3,a,b,c,d,e,by omega⟩))
          · rintro (h | h | h | h)
            · exact absurd h.1 (by omega)
            · exact absurd h.1 (by omega)
            · exact absurd h.1 (by omega)
            · exact ⟨h.2.1,h.2.2.1,h.2.2.2.1,⟨h.2.2.2.2.1,h.2.2.2.2.2.1⟩,by omega⟩
        · have q3:(n.Phase==3)=false:=by simpa using p3
          simp only [q1,q2,q3,cond_false,Bool.false_eq_true,and_false,false_iff]
          rintro (h | h | h | h)<;>omega
theorem c4l {a b:g9}:(([a.Who,a.Seq]:List Int)==[b.Who,b.Seq])=true↔a=b:=by
  obtain ⟨a1,a2⟩:=a
  obtain ⟨b1,b2⟩:=b
  simp
theorem c1r {n:a6}:a5h n=true↔b9G n:=by
  unfold a5h b9G
  cases n.Busy
  · simp only [cond_false,Bool.and_eq_true,a9r,a3s,Bool.false_eq_true,false_and,false_or,true_and]
  · simp only [cond_true,Bool.and_eq_true,Bool.not_eq_true',Bool.true_eq_false,false_and,or_false,true_and]
    rw [show (([n.Want.Req.Who,n.Want.Req.Seq]:List Int)==[n.Id,n.Seq])=true↔n.Want.Req=⟨n.Id,n.Seq⟩ from c4l (b:=⟨n.Id,n.Seq⟩)]
theorem a5q {n:a6}:G1 n=true↔NI n:=by
  unfold G1 a3g H4 b9h
  simp only [Bool.and_eq_true,R0,b0D,List.all_eq_true,decide_eq_true_eq,Bool.not_eq_true',decide_eq_false_iff_not]
  constructor
  · rintro ⟨h1,⟨h2,h3,h4⟩,⟨h5,h6⟩,h7,h8,h9,h10,h11⟩
    exact ⟨h1,h2,h3.1,fun v hv=>⟨h3.2 v hv,by have:=h4 v hv; omega⟩,h5,h6,h7,by omega,h11,(c8J h1).1 h9,c1r.1 h10⟩
  · intro h
    exact ⟨h.id,⟨h.pr,⟨h.vl,fun v hv=>(h.vs v hv).1⟩,fun v hv=>by have:=(h.vs v hv).2; omega⟩,⟨h.kl,h.ks⟩,h.sq,by have:=h.ql; omega,(c8J h.id).2 h.ld,c1r.2 h.wt,h.qs⟩
theorem d9v {i:j6} (h:a0P i=true):a9q i:=by
  unfold a0P at h
  by_cases k1:i.Kind=1
  · simp [k1,j7] at h; exact ⟨q8 (by omega),q8 (by omega),q8 (by omega),q8 (by omega)⟩
  by_cases k2:i.Kind=2
  · simp [k2,j7] at h; exact ⟨q8 (by omega),q8 (by omega),q8 (by omega),q8 (by omega)⟩
  by_cases k3:i.Kind=3
  · simp [k3,j7] at h; exact ⟨q8 (by omega),q8 (by omega),q8 (by omega),q8 (by omega)⟩
  by_cases k4:i.Kind=4
  · simp [k4,j7] at h; exact ⟨q8 (by omega),q8 (by omega),q8 (by omega),q8 (by omega)⟩
  by_cases k5:i.Kind=5
  · simp [k5,j7] at h; exact ⟨q8 (by omega),q8 (by omega),q8 (by omega),q8 (by omega)⟩
  by_cases k6:i.Kind=6
  · simp [k6,j7] at h; exact ⟨q8 (by omega),q8 (by omega),q8 (by omega),q8 (by omega)⟩
  by_cases k7:i.Kind=7
  · simp [k7] at h; exact ⟨q8 (by omega),q8 (by omega),q8 (by omega),q8 (by omega)⟩
  · simp [k1,k2,k3,k4,k5,k6,k7] at h
theorem c26 {l:List j6} (h:L0 l=true):v5 32 a9q l:=by
  obtain ⟨h1,h2⟩:=c3Q h
  exact a00 (by omega) fun i hi=>d9v (h2 i hi)
theorem a2f.phase {n:a6} (h:a2f n):0≤n.Phase∧n.Phase≤3:=by
  rcases h with h | h | h | h<;>omega
theorem a2f.bal {n:a6} (h:a2f n):0≤n.Bal∧n.Bal≤3000:=by
  rcases h with h | h | h | h
  · omega
  all_goals exact ⟨by have:=h.2.1.b1; omega,h.2.1.b2⟩
theorem a2f.best {n:a6} (h:a2f n):n.Best.length≤40 ∧ ∀ v∈n.Best,VI v:=by
  rcases h with h | h | h | h
  · rw [h.2.2.2.1]; exact ⟨by simp,by simp⟩
  all_goals exact ⟨h.2.1.bl,h.2.1.bs⟩
theorem a2f.from3 {n:a6} (h:a2f n):n.From.length≤3∧n.Votes.length≤3∧E9 n.Cur:=by
  rcases h with h | h | h | h
  · rw [h.2.2.1,h.2.2.2.2.2,h.2.2.2.2.1]; exact ⟨by simp,by simp,a0G⟩
  · rw [h.2.2.2.2.2,h.2.2.2.2.1]; exact ⟨by omega,by simp,a0G⟩
  · rw [h.2.2.1,h.2.2.2.1,h.2.2.2.2]; exact ⟨by simp,by simp,a0G⟩
  · rw [h.2.2.1]; exact ⟨by simp,by omega,a2p h.2.2.2.1⟩
theorem NI.ok {n:a6} (h:NI n):Y1 n:=by
  have hf:=h.ld.from3
  have hb:=h.ld.best
  have hw:E9 n.Want∧v5 32 a9q n.Prog:=by
    rcases h.wt with q | q
    · exact ⟨a2p q.2.2.1,c26 q.2.1⟩
    · rw [q.2.1,q.2.2]; exact ⟨a0G,T5⟩
  have hph:=h.ld.phase
  have hbl:=h.ld.bal
  have h1:=h.id
  have h2:=h.pr
  have h3:=h.sq
  have h4:=h.vl
  have h5:=h.kl
  have h6:=h.ql
  exact ⟨q8 (by omega),⟨q8 (by omega),a5k (by omega) fun v hv=>(h.vs v hv).1⟩,c1y (by omega) h.ks,q8 (by omega),q8 (by omega),q8 (by omega),
    a00 (by omega) (fun _ _=>trivial),a5k (by omega) hb.2,hf.2.2,a00 (by omega) (fun _ _=>trivial),hw.2,hw.1,c1y (by omega) fun e he=>(h.qs e he).1⟩
theorem NI.list {n:a6} (h:NI n):H4 n.Known=true:=by
  unfold H4
  simp only [Bool.and_eq_true,decide_eq_true_eq,List.all_eq_true]
  exact ⟨h.kl,h.ks⟩
def Y8 (m:a8):Prop :=
  ((m.Kind=1∨m.Kind=4)∧(1≤m.Bal∧m.Bal≤3000)∧m.Entry=zE∧m.Votes=[]) ∨
  (m.Kind=2∧(1≤m.Bal∧m.Bal≤3000)∧m.Entry=zE∧(m.Votes.length≤40 ∧ ∀ v∈m.Votes,VI v)∧m.Slot+m.Votes.length≤40) ∨
  (m.Kind=3∧(1≤m.Bal∧m.Bal≤3000)∧m.Slot<40∧q9 m.Entry=true∧m.Votes=[]) ∨
  (m.Kind=5∧m.Bal=0∧m.Slot<40∧q9 m.Entry=true∧m.Votes=[]) ∨
  (m.Kind=6∧(1≤m.Bal∧m.Bal≤3000)∧m.Slot=0∧m.Entry=zE∧m.Votes=[]) ∨
  (m.Kind=7∧m.Bal=0∧m.Slot=0∧q9 m.Entry=true∧m.Entry.None=false∧m.Votes=[]) ∨
  (m.Kind=8∧m.Bal=0∧m.Entry=zE∧m.Votes=[])
structure MI (m:a8):Prop where
  fr:0≤m.From∧m.From≤2
  to:0≤m.To∧m.To≤2
  ne:m.From≠m.To
  sl:0≤m.Slot∧m.Slot≤40
  kd:Y8 m
theorem d4r {m:a8}:a1O m=true↔MI m:=by
  have hk:(0≤m.Slot∧m.Slot≤40)→(a50 m=true↔Y8 m):=by
    intro hs
    have hw:a1n m.Votes=true→i7 (m.Slot+(m.Votes.length:Int))=m.Slot+(m.Votes.length:Int):=by
      intro hv
      have:=(b0D.1 hv).1
      exact B0 (by omega) (by omega)
    unfold a50 Y8
    simp only [Bool.cond_eq_ite]
    by_cases k1:m.Kind=1
    · simp [k1,R0,a3s]
    by_cases k4:m.Kind=4
    · simp [k4,R0,a3s]
    by_cases k2:m.Kind=2
    · simp only [k2,R0,a3s,beq_self_eq_true,if_true,Bool.and_eq_true,decide_eq_true_eq]
      simp only [show ((2:Int)==1)=false from rfl,show ((2:Int)==4)=false from rfl,Bool.false_eq_true,if_false,Bool.and_eq_true,R0,a3s,decide_eq_true_eq]
      constructor
      · rintro ⟨a,b,c,d⟩
        rw [hw c] at d
        exact .inr (.inl ⟨trivial,a,b,b0D.1 c,d⟩)
      · rintro (h | h | h | h | h | h | h)
        · omega
        · have c:=b0D.2 h.2.2.2.1
          exact ⟨h.2.1,h.2.2.1,c,by rw [hw c]; exact h.2.2.2.2⟩
        all_goals exact absurd h.1 (by omega)
    by_cases k3:m.Kind=3
    · simp [k3,R0]
    by_cases k5:m.Kind=5
    · simp [k5]
    by_cases k6:m.Kind=6
    · simp [k6,R0,a3s]
    by_cases k7:m.Kind=7
    · simp [k7]
    by_cases k8:m.Kind=8
    · simp [k8,a3s]
    · simp [k1,k2,k3,k4,k5,k6,k7,k8]
  unfold a1O
  simp only [Bool.and_eq_true,R0,Bool.not_eq_true',beq_eq_false_iff_ne]
  constructor
  · rintro ⟨a,b,c,d,e⟩; exact ⟨a,b,c,d,(hk d).1 e⟩
  · intro h; exact ⟨h.fr,h.to,h.ne,h.sl,(hk h.sl).2 h.kd⟩
theorem MI.ok {m:a8} (h:MI m):a1V m:=by
  have hf:=h.fr
  have ht:=h.to
  have hs:=h.sl
  have hk:G8 m.Kind∧G8 m.Bal∧E9 m.Entry∧v5 96 X1 m.Votes:=by
    rcases h.kd with q | q | q | q | q | q | q
    · rw [q.2.2.1,q.2.2.2]; exact ⟨q8 (by omega),q8 (by omega),a0G,T5⟩
    · rw [q.2.2.1]; exact ⟨q8 (by omega),q8 (by omega),a0G,a5k (by omega) q.2.2.2.1.2⟩
    · rw [q.2.2.2.2]; exact ⟨q8 (by omega),q8 (by omega),a2p q.2.2.2.1,T5⟩
    · rw [q.2.2.2.2]; exact ⟨q8 (by omega),q8 (by omega),a2p q.2.2.2.1,T5⟩
    · rw [q.2.2.2.2,q.2.2.2.1]; exact ⟨q8 (by omega),q8 (by omega),a0G,T5⟩
    · rw [q.2.2.2.2.2]; exact ⟨q8 (by omega),q8 (by omega),a2p q.2.2.2.1,T5⟩
    · rw [q.2.2.1,q.2.2.2]; exact ⟨q8 (by omega),q8 (by omega),a0G,T5⟩
  exact ⟨hk.1,q8 (by omega),q8 (by omega),hk.2.1,q8 (by omega),hk.2.2.1,hk.2.2.2⟩
structure WI (w:f0):Prop where
  nl:w.Nodes.length=3
  ns : ∀ (i:Nat) (n:a6),w.Nodes[i]?=some n→n.Id=(i:Int)∧NI n
  ml:w.Net.length≤40
  ms : ∀ m∈w.Net,MI m
  al:w.Asked.length≤60
  aq : ∀ a∈w.Asked,a2b a=true
  tl:w.Told.length≤60
  ts : ∀ t∈w.Told,Z3 t=true
theorem b1A {w:f0}:L4 w=true↔WI w:=by
  unfold L4
  simp only [Bool.and_eq_true,beq_iff_eq,decide_eq_true_eq,List.all_eq_true,List.mem_range,d4r]
  constructor
  · rintro ⟨h1,h2,h3,h4,h5,h6,h7,h8⟩
    refine ⟨by omega,?_,by omega,h6,by omega,h7,by omega,h8⟩
    intro i n hn
    have hi:=(List.getElem?_eq_some_iff.1 hn).1
    have:=h5 i hi
    unfold a46 at this
    rw [hn] at this
    simp only [Bool.and_eq_true,beq_iff_eq,a5q] at this
    exact this
  · intro h
    have h2:=h.ml
    have h3:=h.al
    have h4:=h.tl
    refine ⟨by have:=h.nl; omega,by omega,by omega,by omega,?_,h.ms,h.aq,h.ts⟩
    intro i hi
    unfold a46
    rw [List.getElem?_eq_getElem hi]
    simp only [Bool.and_eq_true,beq_iff_eq,a5q]
    exact h.ns i _ (List.getElem?_eq_getElem hi)
theorem d3D {a:j9} (h:a2b a=true):c5K a:=by
  unfold a2b at h
  simp only [Bool.and_eq_true,R0] at h
  exact ⟨⟨q8 (by omega),q8 (by omega)⟩,c26 h.2⟩
theorem d1a {t:e9} (h:Z3 t=true):c3M t:=by
  unfold Z3 at h
  simp only [Bool.and_eq_true,R0] at h
  exact ⟨q8 (by omega),⟨q8 (by omega),q8 (by omega)⟩,q8 (by omega),q8 (by omega)⟩
theorem WI.ok {w:f0} (h:WI w):a6x w:=by
  have h1:=h.nl
  have h2:=h.ml
  have h3:=h.al
  have h4:=h.tl
  refine ⟨a00 (by omega) ?_,a00 (by omega) fun m hm=>(h.ms m hm).ok,a00 (by omega) fun a ha=>d3D (h.aq a ha),a00 (by omega) fun t ht=>d1a (h.ts t ht)⟩
  intro n hn
  obtain ⟨i,hi⟩:=List.getElem?_of_mem hn
  exact (h.ns i n hi).2.ok
theorem b2B (m o:a8):a3h m o=some [a3R m o]:=rfl
theorem c6X (n:a6) (b:Int):a8V n b=some (a07 n b):=by
  unfold a8V a07
  cases n.Phase != 0
  · rfl
  · simp only [cond_true,Bool.true_and]
    cases decide (b>n.Bal)<;>rfl
theorem d8O (n:a6) (b:Int):a9n n b=some (a07 n b):=by
  unfold a9n a07
  cases n.Phase != 0
  · rfl
  · simp only [cond_true,Bool.true_and]
    cases decide (b>n.Bal)<;>rfl
theorem d22 (n:a6) (b:Int):(a07 n b).Acc=n.Acc:=by
  unfold a07
  cases n.Phase != 0&&decide (b>n.Bal)<;>rfl
theorem b1C {a x:s6} {b:Int} (h:R7 a b=some x):x=⟨b,a.Votes⟩∧1≤b∧b≤3000∧a.Promised≤b:=by
  unfold R7 b0S at h
  cases hq:j7 b 1 3000&&decide (a.Promised≤b)
  · rw [hq] at h; cases h
  · rw [hq] at h
    simp only [Bool.and_eq_true,R0,decide_eq_true_eq] at hq
    injection h with h
    exact ⟨h.symm,hq.1.1,hq.1.2,hq.2⟩
theorem d43 {α:Type} (l:List α) (k:Nat):(l.drop k).take (l.length - k)=l.drop k:=by
  rw [List.take_of_length_le]
  simp
theorem c92 {n:a6} (h:Y1 n) {m:a8} (hs:0≤m.Slot):b2A n m=some (a57 n m):=by
  unfold b2A a57
  rw [b92,b1g]
  cases hp:R7 n.Acc m.Bal with
  | none=>rfl
  | some a =>
    obtain ⟨rfl,_⟩:=b1C hp
    simp only [a3G,Option.bind_some,Bool.not_true,cond_false,d8O]
    have ha:=d22 { n with Acc:=⟨m.Bal,n.Acc.Votes⟩ } m.Bal
    have hy : ∀ y:a6,y.Acc=⟨m.Bal,n.Acc.Votes⟩→(a6.mk y.Id (s6.mk y.Acc.Promised n.Acc.Votes) y.Known y.Seq y.Phase y.Bal y.From y.Best y.Cur y.Votes y.Busy y.Prog y.Want y.Queue)=y:=by
      intro y hy
      obtain ⟨y1,y2,y3,y4,y5,y6,y7,y8,y9,y10,y11,y12,y13,y14⟩:=y
      simp only at hy
      subst hy
      rfl
    rw [hy _ ha]
    obtain ⟨k,hk⟩ : ∃ k:Nat,m.Slot=(k:Int):=⟨m.Slot.toNat,by omega⟩
    rw [hk,Int.toNat_natCast,d43]
    cases hd:decide ((k:Int)<(n.Acc.Votes.length:Int))
    · simp only [cond_false,b2B,Option.bind_some]
      rw [List.drop_eq_nil_of_le (by simp at hd; omega)]
    · simp only [cond_true]
      rw [o9 (by simp at hd; omega),d7c (d36 h.2.1.2 (by simp) fun x hx=>List.mem_of_mem_drop hx),Option.bind_some,b2B,Option.bind_some]
theorem d0O {n:a6} {m:a8} (hm:a1V m):b3S n m=some (a5I n m):=by
  have he:E9 m.Entry:=hm.2.2.2.2.2.1
  unfold b3S a5I
  rw [c0w he,c0y he]
  cases U6 n.Acc m.Bal m.Slot m.Entry with
  | none=>rfl
  | some a=>simp only [a3G,Option.bind_some,Bool.not_true,cond_false,c6X,b2B]
theorem c54 {l:List Bool} (h:l.length≤3):n7 l:=by unfold n7; omega
theorem d0d {n:a6} (h:NI n) {m:a8} (hm:MI m) (hk:m.Kind=2):b3k n m=some (a5m n m):=by
  have hkd:(m.Votes.length≤40 ∧ ∀ v∈m.Votes,VI v)∧m.Slot+m.Votes.length≤40:=by
    rcases hm.kd with q | q | q | q | q | q | q
    · omega
    · exact ⟨q.2.2.2.1,q.2.2.2.2⟩
    all_goals exact absurd q.1 (by omega)
  have hs:=hm.sl
  have hf:=hm.fr
  unfold b3k a5m
  by_cases p1:n.Phase=1
  · rw [show (n.Phase != 1)=false by simp [p1],Bool.false_or]
    simp only [cond_false]
    cases hb:m.Bal != n.Bal
    · simp only [cond_false]
      have hl:n.From.length=3∧Own n:=by
        rcases h.ld with q | q | q | q
        · omega
        · exact ⟨q.2.2.1,q.2.1⟩
        all_goals exact absurd q.1 (by omega)
      obtain ⟨f,hff⟩ : ∃ f:Nat,m.From=(f:Int):=⟨m.From.toNat,by omega⟩
      have hvo:v5 96 X1 (List.replicate m.Slot.toNat v0++m.Votes):=a5k (by simp; omega) (by
        intro v hv
        rcases List.mem_append.1 hv with q | q
        · rw [(List.mem_replicate.1 q).2]; exact .inl rfl
        · exact hkd.1.2 v q)
      have hz : ∀ v∈List.replicate m.Slot.toNat v0++m.Votes,v.Bal≤0→v=v0:=by
        intro v hv hb
        rcases List.mem_append.1 hv with q | q
        · exact (List.mem_replicate.1 q).2
        · exact (hkd.1.2 v q).zero hb
      rw [hff,p9 (show f<n.From.length by omega),Option.bind_some,d31 (a5k (by omega) hkd.1.2) hkd.1.1 hs,Option.bind_some,d1e (a5k (by have:=hl.2.bl; omega) hl.2.bs) hvo (by have:=hl.2.bl; omega) (by simp; omega) hz,Option.bind_some,c3s (c54 (by simp; omega)),Option.bind_some]
      cases htw:two (n.From.set (f:Int).toNat true)
      · simp only [Bool.not_false,cond_true,cond_false]
      · simp only [Bool.not_true,cond_false,cond_true]
        have hbl:=b2i n.Best (List.replicate m.Slot.toNat v0++m.Votes)
        have hob:=hl.2.bl
        have hlen:(List.replicate m.Slot.toNat v0++m.Votes).length≤40:=by simp; omega
        obtain ⟨h1,h2,h3,h4,h5,h6,h7,h8,h9,h10,h11,h12,h13⟩:=h.ok
        rw [a9g (n:=⟨n.Id,n.Acc,n.Known,n.Seq,2,n.Bal,[],I5 n.Best (List.replicate m.Slot.toNat v0++m.Votes),n.Cur,n.Votes,n.Busy,n.Prog,n.Want,n.Queue⟩) ⟨h1,h2,h3,h4,q8 (n:=2) (by omega),h6,T5,a5k (by show (I5 n.Best (List.replicate m.Slot.toNat v0++m.Votes)).length≤1000; omega) (fun v hv=>(c8Z hv).elim (fun q=>hl.2.bs v q) (fun q=>(List.mem_append.1 q).elim (fun q=>by rw [(List.mem_replicate.1 q).2]; exact .inl rfl) (hkd.1.2 v))),h9,h10,h11,h12,h13⟩ h.id,Option.bind_some]
    · rfl
  · rw [show (n.Phase != 1)=true by simpa using p1]; rfl
theorem a1y (id:Int) (m:a8):(T2 id m).length≤3:=by
  unfold T2
  rw [List.length_map]
  exact List.length_filter_le _ _
theorem a49 (n:a6):(Z6 n).2.length≤3:=by
  unfold Z6 a9R
  cases n.Phase != 2||decide (40≤n.Known.length)
  · simp only [cond_false]
    cases a2V n with
    | mk x o =>
      cases o with
      | none=>simp
      | some e =>
        simp only
        cases U6 x.Acc x.Bal (x.Known.length:Int) e with
        | none=>simp
        | some a=>exact a1y _ _
  · simp
theorem d4Z {n:a6} (h:NI n) {m:a8} (hm:MI m):b2l n m=some (a8d n m):=by
  have hf:=hm.fr
  unfold b2l a8d
  by_cases p3:n.Phase=3
  · rw [show (n.Phase != 3)=false by simp [p3],Bool.false_or]
    simp only [cond_false]
    cases hb:m.Bal != n.Bal
    · simp only [cond_false,Bool.false_or]
      cases hs:m.Slot != (n.Known.length:Int)
      · simp only [cond_false]
        have hl:n.Votes.length=3∧q9 n.Cur=true∧n.Known.length<40:=by
          rcases h.ld with q | q | q | q
          · omega
          · omega
          · omega
          · exact ⟨q.2.2.2.2.1,q.2.2.2.1,q.2.2.2.2.2.2⟩
        obtain ⟨f,hff⟩ : ∃ f:Nat,m.From=(f:Int):=⟨m.From.toNat,by omega⟩
        have hcur:=a2p hl.2.1
        rw [hff,p9 (show f<n.Votes.length by omega),Option.bind_some,c3s (c54 (by simp; omega)),Option.bind_some]
        cases htw:two (n.Votes.set (f:Int).toNat true)
        · simp only [Bool.not_false,cond_true,cond_false]
        · simp only [Bool.not_true,cond_false,cond_true]
          obtain ⟨h1,h2,h3,h4,h5,h6,h7,h8,h9,h10,h11,h12,h13⟩:=h.ok
          rw [a0h hcur,Option.bind_some,a4Z h.id (a5P (q8 (by omega)) a0b (q8 (by omega)) hcur T5),Option.bind_some,
            c3U (n:={ n with Votes:=n.Votes.set (f:Int).toNat true }) ⟨h1,h2,h3,h4,h5,h6,h7,h8,h9,a00 (by simp; omega) (fun _ _=>trivial),h11,h12,h13⟩ h.id h.list hl.2.2 hcur hl.2.1,Option.bind_some,o9]
          have e1:=a1y n.Id ⟨5,0,0,0,(n.Known.length:Int),n.Cur,[]⟩
          have e2:=a49 (a08 (X3 { n with Votes:=n.Votes.set (f:Int).toNat true } n.Cur)).1
          have e3:(a2D { n with Votes:=n.Votes.set (f:Int).toNat true } n.Cur).2.1.length≤3:=e2
          omega
      · rfl
    · rfl
  · rw [show (n.Phase != 3)=true by simpa using p3]; rfl
theorem d0L {n:a6} (h:NI n) {m:a8} (hm:MI m) (hk:m.Kind=5):b4k n m=some (a7v n m):=by
  have hkd:m.Slot<40∧q9 m.Entry=true:=by
    rcases hm.kd with q | q | q | q | q | q | q
    · omega
    · omega
    · omega
    · exact ⟨q.2.2.1,q.2.2.2.1⟩
    all_goals exact absurd q.1 (by omega)
  unfold b4k a7v
  cases h1:decide (m.Slot<(n.Known.length:Int))
  · cases h2:decide (m.Slot>(n.Known.length:Int))
    · simp only [cond_false]
      have hl:n.Known.length<40:=by simp at h1 h2; omega
      rw [c3U h.ok h.id h.list hl (a2p hkd.2) hkd.2,Option.bind_some]
    · rfl
  · rfl
theorem d0c {n:a6} (h:NI n) {m:a8} (hm:MI m):b4i n m=some (a6k n m):=by
  have he:E9 m.Entry:=hm.ok.2.2.2.2.2.1
  have hql:=h.ql
  unfold b4i a6k
  rw [show decide ((n.Queue.length:Int)≥4)=decide (4≤n.Queue.length) by simp; omega,b3B (h.ok.2.2.1.fits (by decide)),a0h he]
  cases n.Phase==0
  · simp only [cond_false,Bool.false_or]
    cases decide (4≤n.Queue.length)
    · simp only [cond_false,Bool.false_or,Option.bind_some]
      cases U7 n.Known m.Entry.Req
      · obtain ⟨h1,h2,h3,h4,h5,h6,h7,h8,h9,h10,h11,h12,h13⟩:=h.ok
        simp only [cond_false]
        rw [o9 (by omega),a9g (n:={ n with Queue:=n.Queue++[m.Entry] }) ⟨h1,h2,h3,h4,h5,h6,h7,h8,h9,h10,h11,h12,a00 (by simp; omega) (by
          intro x hx
          rcases List.mem_append.1 hx with q | q
          · exact h13.2 x q
          · rw [List.mem_singleton.1 q]; exact he)⟩ h.id,Option.bind_some]
      · rfl
    · rfl
  · rfl
theorem c7t {n:a6} (m:a8) {k:Nat} (hk:k<n.Known.length):a29 n m k=[a3R m ⟨5,0,0,0,(k:Int),n.Known[k],[]⟩]:=by
  unfold a29
  rw [List.getElem?_eq_getElem hk]
theorem c71 {n:a6} (h:NI n) (m:a8) : ∀ (d k:Nat) (o:List a8),n.Known.length - k=d→o.length≤k→m5 (fun s:(List a8)×Int=>a4X n m s.1 s.2) (o,(k:Int))=some (.brk (o++((List.range d).map fun j=>a29 n m (k+j)).flatten))
  | 0,k,o,hd,ho=>by
    have hkl:=h.kl
    refine (D6 (b:=o) ?_).trans (by simp)
    show a4X n m o (k:Int)=_
    unfold a4X
    rw [show decide ((k:Int)<(n.Known.length:Int))=false by simp; omega]
    rfl
  | d+1,k,o,hd,ho=>by
    have hkl:=h.kl
    have hlt:k<n.Known.length:=by omega
    have hb:a4X n m o (k:Int)=some (.nxt (o++a29 n m k,((k+1:Nat):Int))):=by
      unfold a4X
      rw [u5 _ k hlt,p9 hlt,cond_true,Option.bind_some,a0h (a2p (h.ks _ (List.getElem_mem hlt))),Option.bind_some,b2B,Option.bind_some,o9 (by simp; omega),c7t m hlt,H6 (h.ok.2.2.1.fits (by decide)) hlt]
    rw [M3 (body:=fun s:(List a8)×Int=>a4X n m s.1 s.2) (s:=(o,(k:Int))) hb,c71 h m d (k+1) _ (by omega) (by rw [c7t m hlt]; simp; omega)]
    rw [List.range_succ_eq_map,List.map_cons,List.flatten_cons,List.append_assoc,List.map_map]
    simp only [Nat.add_zero,Function.comp_def,Nat.succ_eq_add_one,Nat.add_assoc,Nat.add_comm 1]
theorem d5u {n:a6} (h:NI n) {m:a8} (hs:0≤m.Slot):b3b n m=some (a6e n m,n):=by
  unfold b3b a6e
  obtain ⟨k,hk⟩ : ∃ k:Nat,m.Slot=(k:Int):=⟨m.Slot.toNat,by omega⟩
  rw [hk]
  have:=c71 h m (n.Known.length - k) k [] rfl (by simp)
  rw [this]
  rfl
theorem d59 {n:a6} (h:NI n) {m:a8} (hm:MI m):b1s n m=some (a2G n m):=by
  unfold b1s a2G
  rw [c92 h.ok hm.sl.1,d0O hm.ok,d4Z h hm,d0c h hm,d5u h hm.sl.1,b1g]
  by_cases k1:m.Kind=1
  · simp [k1]; rfl
  rw [show (m.Kind==1)=false by simpa using k1]
  by_cases k2:m.Kind=2
  · rw [d0d h hm k2]; simp [k2]; rfl
  rw [show (m.Kind==2)=false by simpa using k2]
  by_cases k3:m.Kind=3
  · simp [k3]; rfl
  rw [show (m.Kind==3)=false by simpa using k3]
  by_cases k4:m.Kind=4
  · simp [k4]; rfl
  rw [show (m.Kind==4)=false by simpa using k4]
  by_cases k5:m.Kind=5
  · rw [d0L h hm k5]; simp [k5]; rfl
  rw [show (m.Kind==5)=false by simpa using k5]
  by_cases k6:m.Kind=6
  · rw [show (m.Kind==6)=true by simpa using k6]
    simp only [cond_true,cond_false,Option.bind_some]
    cases R7 n.Acc m.Bal<;>simp only [c6X,Option.bind_some,Option.getD_none,Option.getD_some]<;>rfl
  rw [show (m.Kind==6)=false by simpa using k6]
  by_cases k7:m.Kind=7
  · simp [k7]; rfl
  rw [show (m.Kind==7)=false by simpa using k7]
  cases m.Kind==8
  · rfl
  · simp only [cond_true,cond_false,Option.bind_some]
    rw [o9 trivial,o9 trivial,o9 trivial,o9 trivial,o9 trivial]
    rfl
theorem c0J {a x:s6} {b s:Int} {e:b5} (h:U6 a b s e=some x) : ∃ k:Nat,s=(k:Int)∧k<40∧q9 e=true∧1≤b∧b≤3000∧a.Promised≤b∧x=⟨b,(a1I a.Votes (k+1)).set k ⟨b,e⟩⟩:=by
  unfold U6 at h
  cases hq:j7 s 0 39&&q9 e
  · rw [hq] at h; cases h
  · rw [hq,cond_true] at h
    simp only [Bool.and_eq_true,R0] at hq
    cases hp:R7 a b with
    | none=>rw [hp] at h; cases h
    | some y =>
      rw [hp] at h
      obtain ⟨rfl,h1,h2,h3⟩:=b1C hp
      injection h with h
      refine ⟨s.toNat,by omega,by omega,hq.2,h1,h2,h3,h.symm⟩
theorem b8v {a:s6} {b:Int} (h1:1≤b) (h2:b≤3000) (h3:a.Promised≤b):R7 a b=some ⟨b,a.Votes⟩:=by
  unfold R7 b0S
  rw [R0.2 ⟨h1,h2⟩,show decide (a.Promised≤b)=true by simpa using h3]
  rfl
theorem d3B {a:s6} {b:Int} {k:Nat} {e:b5} (hk:k<40) (he:q9 e=true) (h1:1≤b) (h2:b≤3000) (h3:a.Promised≤b):U6 a b (k:Int) e=some ⟨b,(a1I a.Votes (k+1)).set k ⟨b,e⟩⟩:=by
  unfold U6
  rw [R0.2 (show 0≤(k:Int)∧(k:Int)≤39 by omega),he,b8v h1 h2 h3]
  rfl
theorem d5D {vs:List d7} {n:Nat} {v:d7} (h:v∈a1I vs n):v∈vs∨v=v0:=by
  rcases List.mem_append.1 h with q | q
  · exact .inl q
  · exact .inr (List.mem_replicate.1 q).2
theorem d4j {α:Type} {l:List α} {k:Nat} {x v:α} (h:v∈l.set k x):v∈l∨v=x:=List.mem_or_eq_of_mem_set h
theorem NI.queue {n:a6} (h:NI n) {q:List b5} (hl:q.length≤4) (hm : ∀ e∈q,q9 e=true∧e.None=false):NI { n with Queue:=q } :=
  ⟨h.id,h.pr,h.vl,h.vs,h.kl,h.ks,h.sq,hl,hm,h.ld,h.wt⟩
theorem NI.down {n:a6} (h:NI n):NI (b31 n) :=
  ⟨h.id,h.pr,h.vl,h.vs,h.kl,h.ks,h.sq,h.ql,h.qs,.inl ⟨rfl,rfl,rfl,rfl,rfl,rfl⟩,h.wt⟩
theorem NI.freeN {n:a6} (h:NI n):NI (a95 n) :=
  ⟨h.id,h.pr,h.vl,h.vs,h.kl,h.ks,h.sq,h.ql,h.qs,h.ld,.inr ⟨rfl,rfl,rfl⟩⟩
theorem NI.acc {n:a6} (h:NI n) {a:s6} (h1:0≤a.Promised∧a.Promised≤3000) (h2:a.Votes.length≤40) (h3 : ∀ v∈a.Votes,VI v∧v.Bal≤a.Promised) (h4:n.Acc.Promised≤a.Promised):NI { n with Acc:=a }:=by
  have ho:Own n→Own { n with Acc:=a }:=fun o=>⟨o.b1,o.b2,o.mod,Int.le_trans o.pr h4,o.bl,o.bs⟩
  refine ⟨h.id,h1,h2,h3,h.kl,h.ks,h.sq,h.ql,h.qs,?_,h.wt⟩
  rcases h.ld with q | q | q | q
  · exact .inl q
  · exact .inr (.inl ⟨q.1,ho q.2.1,q.2.2⟩)
  · exact .inr (.inr (.inl ⟨q.1,ho q.2.1,q.2.2⟩))
  · exact .inr (.inr (.inr ⟨q.1,ho q.2.1,q.2.2⟩))
theorem NI.promise {n:a6} (h:NI n) {b:Int} {x:s6} (hp:R7 n.Acc b=some x):NI { n with Acc:=x }:=by
  obtain ⟨rfl,h1,h2,h3⟩:=b1C hp
  exact h.acc ⟨by simp only; omega,h2⟩ h.vl (fun v hv=>⟨(h.vs v hv).1,Int.le_trans (h.vs v hv).2 h3⟩) h3
theorem d4l {vs:List d7} {p b:Int} {k:Nat} {e:b5} (hk:k<40) (hl:vs.length≤40) (hv : ∀ v∈vs,VI v∧v.Bal≤p) (he:q9 e=true) (h1:1≤b) (h2:b≤3000) (h3:p≤b) :
    ((a1I vs (k+1)).set k ⟨b,e⟩).length≤40 ∧ ∀ v∈(a1I vs (k+1)).set k ⟨b,e⟩,VI v∧v.Bal≤b:=by
  refine ⟨by rw [List.length_set,c2W]; omega,fun v hm => ?_⟩
  rcases d4j hm with q | q
  · rcases d5D q with q | q
    · exact ⟨(hv v q).1,Int.le_trans (hv v q).2 h3⟩
    · rw [q]; exact ⟨.inl rfl,by show (0:Int)≤b; omega⟩
  · rw [q]; exact ⟨.inr ⟨h1,h2,he⟩,Int.le_refl _⟩
theorem NI.cast {n:a6} (h:NI n) {b s:Int} {e:b5} {x:s6} (hc:U6 n.Acc b s e=some x):NI { n with Acc:=x }:=by
  obtain ⟨k,rfl,hk,he,h1,h2,h3,rfl⟩:=c0J hc
  obtain ⟨a,b'⟩:=d4l hk h.vl h.vs he h1 h2 h3
  exact h.acc ⟨by simp only; omega,h2⟩ a b' h3
theorem NI.yield {n:a6} (h:NI n) (b:Int):NI (a07 n b):=by
  unfold a07
  cases n.Phase != 0&&decide (b>n.Bal)
  · exact h
  · exact h.down
theorem b8D {id:Int} (h:0≤id∧id≤2):(b0T id).length=3∧(b0T id)[id.toNat]?=some true:=by
  unfold b0T
  refine ⟨by simp,?_⟩
  rw [List.getElem?_set_self (by simp; omega)]
theorem a2U.right {n:a6} (h:NI n) {e:b5} (hn:a2U n e):q9 e=true:=by
  cases hn with
  | best v hv hb=>exact (h.ld.best.2 v (List.mem_of_getElem? hv)).pos hb
  | gap=>rfl
  | want hb =>
    rcases h.wt with q | q
    · exact q.2.2.1
    · rw [hb] at q; cases q.1
  | queue e hq=>exact (h.qs e hq).1
theorem d5O {id:Int} {m x:a8} (hid:0≤id∧id≤2) (h:x∈T2 id m) : ∃ t:Int,0≤t∧t≤2∧t≠id∧x={ m with From:=id,To:=t }:=by
  unfold T2 at h
  obtain ⟨t,ht,rfl⟩:=List.mem_map.1 h
  obtain ⟨h1,h2⟩:=List.mem_filter.1 ht
  refine ⟨t,?_,?_,by simpa using h2,rfl⟩
  all_goals simp at h1; omega
theorem a4T {id:Int} {m:a8} (hid:0≤id∧id≤2) (hk:Y8 m) (hs:0≤m.Slot∧m.Slot≤40) : ∀ x∈T2 id m,MI x:=by
  intro x hx
  obtain ⟨t,h1,h2,h3,rfl⟩:=d5O hid hx
  exact ⟨hid,⟨h1,h2⟩,fun q=>h3 q.symm,hs,hk⟩
theorem a7k {m o:a8} (hm:MI m) (hk:Y8 o) (hs:0≤o.Slot∧o.Slot≤40):MI (a3R m o):=⟨hm.to,hm.fr,fun q=>hm.ne q.symm,hs,hk⟩
theorem Y8.one {k b s:Int} (hk:k=1∨k=4) (hb:1≤b∧b≤3000):Y8 ⟨k,0,0,b,s,zE,[]⟩:=.inl ⟨hk,hb,rfl,rfl⟩
theorem Y8.accept {b s:Int} {e:b5} (hb:1≤b∧b≤3000) (hs:s<40) (he:q9 e=true):Y8 ⟨3,0,0,b,s,e,[]⟩:=.inr (.inr (.inl ⟨rfl,hb,hs,he,rfl⟩))
theorem Y8.chosen {s:Int} {e:b5} (hs:s<40) (he:q9 e=true):Y8 ⟨5,0,0,0,s,e,[]⟩:=.inr (.inr (.inr (.inl ⟨rfl,rfl,hs,he,rfl⟩)))
theorem Y8.refuse {b:Int} (hb:1≤b∧b≤3000):Y8 ⟨6,0,0,b,0,zE,[]⟩:=.inr (.inr (.inr (.inr (.inl ⟨rfl,hb,rfl,rfl,rfl⟩))))
theorem Y8.ask {e:b5} (he:q9 e=true) (hn:e.None=false):Y8 ⟨7,0,0,0,0,e,[]⟩:=.inr (.inr (.inr (.inr (.inr (.inl ⟨rfl,rfl,rfl,he,hn,rfl⟩)))))
theorem Y8.need {s:Int}:Y8 ⟨8,0,0,0,s,zE,[]⟩:=.inr (.inr (.inr (.inr (.inr (.inr ⟨rfl,rfl,rfl,rfl⟩)))))
structure V3 (n:a6) (x:a6×List a8):Prop where
  ni:NI x.1
  id:x.1.Id=n.Id
  ms : ∀ m∈x.2,MI m
theorem V3.same {n:a6} (h:NI n):V3 n (n,[]):=⟨h,rfl,by simp⟩
theorem V3.to {n n':a6} (hi:n'.Id=n.Id) {x:a6×List a8} (h:V3 n' x):V3 n x:=⟨h.ni,h.id.trans hi,h.ms⟩
theorem a9E {n:a6} (h:NI n):V3 n (Z6 n):=by
  unfold Z6
  cases hc:n.Phase != 2||decide (40≤n.Known.length)
  · simp only [cond_false]
    simp only [Bool.or_eq_false_iff,bne_eq_false_iff_eq,decide_eq_false_iff_not] at hc
    obtain ⟨q,hq,hql,hqm,hqe⟩:=b8i n
    cases hx:a2V n with
    | mk x o =>
    rw [hx] at hq hqe
    have hq:x={ n with Queue:=q }:=hq
    have hn:NI { n with Queue:=q }:=h.queue (by have:=h.ql; omega) fun e he=>h.qs e (hqm e he)
    subst hq
    cases o with
    | none=>exact ⟨hn,rfl,by simp⟩
    | some e =>
      have he:=(hqe e rfl).right h
      simp only [a9R]
      have ho:Own n:=by
        rcases h.ld with q | q | q | q
        · omega
        · omega
        · exact q.2.1
        · omega
      cases hcs:U6 n.Acc n.Bal (n.Known.length:Int) e with
      | none=>exact ⟨hn.down,rfl,by simp⟩
      | some a =>
        have hac:=hn.cast (b:=n.Bal) (s:=(n.Known.length:Int)) (e:=e) hcs
        obtain ⟨k,hk,hk40,_,h1,h2,h3,rfl⟩:=c0J hcs
        refine ⟨⟨h.id,hac.pr,hac.vl,hac.vs,h.kl,h.ks,h.sq,hn.ql,hn.qs,?_,h.wt⟩,rfl,a4T h.id (.accept ⟨h1,h2⟩ (by omega) he) (by simp only; omega)⟩
        refine .inr (.inr (.inr ⟨rfl,⟨ho.b1,ho.b2,ho.mod,Int.le_refl _,ho.bl,ho.bs⟩,?_,he,(b8D h.id).1,(b8D h.id).2,by simp only; omega⟩))
        rcases h.ld with q | q | q | q
        · omega
        · omega
        · exact q.2.2.1
        · omega
  · exact .same h
theorem NI.know {n:a6} (h:NI n) {e:b5} (he:q9 e=true) (hl:n.Known.length<40):NI (X3 n e):=by
  have hks : ∀ x∈n.Known++[e],q9 x=true:=by
    intro x hx
    rcases List.mem_append.1 hx with q | q
    · exact h.ks x q
    · rw [List.mem_singleton.1 q]; exact he
  have hkl:(n.Known++[e]).length≤40:=by simp; omega
  unfold X3
  by_cases p3:n.Phase=3
  · rw [show (n.Phase==3)=true by simpa using p3]
    refine ⟨h.id,h.pr,h.vl,h.vs,hkl,hks,h.sq,h.ql,h.qs,?_,h.wt⟩
    rcases h.ld with q | q | q | q
    · omega
    · omega
    · omega
    · exact .inr (.inr (.inl ⟨rfl,⟨q.2.1.b1,q.2.1.b2,q.2.1.mod,q.2.1.pr,q.2.1.bl,q.2.1.bs⟩,q.2.2.1,rfl,rfl⟩))
  · rw [show (n.Phase==3)=false by simpa using p3]
    refine ⟨h.id,h.pr,h.vl,h.vs,hkl,hks,h.sq,h.ql,h.qs,?_,h.wt⟩
    rcases h.ld with q | q | q | q
    · exact .inl q
    · exact .inr (.inl ⟨q.1,⟨q.2.1.b1,q.2.1.b2,q.2.1.mod,q.2.1.pr,q.2.1.bl,q.2.1.bs⟩,q.2.2⟩)
    · exact .inr (.inr (.inl ⟨q.1,⟨q.2.1.b1,q.2.1.b2,q.2.1.mod,q.2.1.pr,q.2.1.bl,q.2.1.bs⟩,q.2.2⟩))
    · exact absurd q.1 p3
theorem d5f {s:j4} {e:b5} (hn:e.None=false):0≤(apply s e).2∧(apply s e).2≤4:=by
  have hf:0≤(a0d s e).2∧(a0d s e).2≤4:=by
    unfold a0d
    cases a2A s.Boxes e.Run
    · exact ⟨by simp,by simp⟩
    · cases e.Run.Code==0<;>exact ⟨by simp,by simp⟩
  unfold apply
  rw [hn]
  simp only [cond_false]
  cases s.Dones.find? fun d=>d.Req.Who==e.Req.Who with
  | none=>exact hf
  | some d =>
    simp only
    cases d.Req.Seq==e.Req.Seq
    · cases decide (d.Req.Seq>e.Req.Seq)
      · exact hf
      · exact ⟨by simp,by simp⟩
    · exact ⟨by simp,by simp⟩
theorem c6L {l:List b5} {q:g9} {k:Nat} (h:l.findIdx? (M5 q)=some k) : ∃ hk:k<l.length,l[k].None=false∧l[k].Req=q:=by
  rw [List.findIdx?_eq_some_iff_getElem] at h
  obtain ⟨hk,h1,_⟩:=h
  unfold M5 at h1
  simp only [Bool.and_eq_true,Bool.not_eq_true'] at h1
  exact ⟨hk,h1.1,c4l.1 h1.2⟩
theorem d85 {l:List b5} (h:H4 l=true) {k:Nat} (hk:k<l.length):a2I l k=(apply (l9 (l.take k)).1 l[k]).2:=by
  obtain ⟨a,b⟩:=a1K h
  unfold a2I
  rw [c5R a b hk]; rfl
theorem d5h {l:List b5} (h : ∀ e∈l,q9 e=true) (q:g9) : -1000000≤a6R l q∧a6R l q≤1000000:=by
  unfold a6R
  cases hf:l.findIdx? (M5 q) with
  | none=>exact ⟨by simp,by simp⟩
  | some k =>
    obtain ⟨hk,h1,h2⟩:=c6L hf
    simp only [List.getElem?_eq_getElem hk]
    exact (a5i (a65 (h _ (List.getElem_mem hk)) h1).2.2.1).2.1
theorem d53 {n:a6} (h:NI n):NI (a08 n).1 ∧ ∀ t∈(a08 n).2,Z3 t=true:=by
  rcases b3e n with q | ⟨k,hb,hk,q⟩<;>rw [q]
  · exact ⟨h,by simp⟩
  · refine ⟨h.freeN,fun t ht => ?_⟩
    obtain ⟨hkl,h1,h2⟩:=c6L hk
    have ht:=List.mem_singleton.1 ht
    subst ht
    have hw:n.Want.Req=⟨n.Id,n.Seq⟩∧q9 n.Want=true∧n.Want.None=false:=by
      rcases h.wt with q | q
      · exact ⟨q.2.2.2.2,q.2.2.1,q.2.2.2.1⟩
      · rw [hb] at q; cases q.1
    obtain ⟨w1,w2,_⟩:=a65 hw.2.1 hw.2.2
    have hc:=d5f (s:=(l9 (n.Known.take k)).1) h1
    rw [← d85 h.list hkl] at hc
    have hv:=d5h h.ks n.Want.Req
    unfold Z3
    simp only [Bool.and_eq_true,R0,beq_iff_eq]
    refine ⟨h.id,⟨w1,w2⟩,by rw [hw.1],hc,?_⟩
    cases a2I n.Known k==0
    · exact ⟨by simp,by simp⟩
    · exact hv
structure a5l (n:a6) (x:a6×List a8×List e9):Prop where
  ni:NI x.1
  id:x.1.Id=n.Id
  ms : ∀ m∈x.2.1,MI m
  ts : ∀ t∈x.2.2,Z3 t=true
theorem V3.three {n:a6} {x:a6×List a8} (h:V3 n x):a5l n (x.1,x.2,[]):=⟨h.ni,h.id,h.ms,by simp⟩
theorem a5l.same {n:a6} (h:NI n):a5l n (n,[],[]):=⟨h,rfl,by simp,by simp⟩
theorem c1b {n:a6} (h:NI n) {e:b5} (he:q9 e=true) (hl:n.Known.length<40):a5l n (a2D n e):=by
  have h1:=h.know he hl
  obtain ⟨h2,h3⟩:=d53 h1
  have h4:=a9E h2
  exact ⟨h4.ni,h4.id.trans ((c11 _).trans (c8a _ _)),h4.ms,h3⟩
theorem d6F {a:s6} {b:Int} (h:R7 a b=none) (hb:1≤b∧b≤3000):b<a.Promised:=by
  by_cases q:a.Promised≤b
  · rw [b8v hb.1 hb.2 q] at h; cases h
  · omega
theorem c9X {n:a6} (h:NI n) {m:a8} (hm:MI m) (hk:m.Kind=1):V3 n (a57 n m):=by
  have hb:1≤m.Bal∧m.Bal≤3000:=by
    rcases hm.kd with q | q | q | q | q | q | q
    · exact q.2.1
    all_goals exact absurd q.1 (by omega)
  have hs:=hm.sl
  unfold a57
  cases hp:R7 n.Acc m.Bal with
  | none =>
    have:=d6F hp hb
    refine ⟨h,rfl,fun x hx => ?_⟩
    rw [List.mem_singleton.1 hx]
    exact a7k hm (.refuse (by have:=h.pr; omega)) (by simp)
  | some a =>
    have hn:=(h.promise hp).yield m.Bal
    obtain ⟨rfl,_⟩:=b1C hp
    refine ⟨hn,?_,fun x hx => ?_⟩
    · simp only [a07]
      cases n.Phase != 0&&decide (m.Bal>n.Bal)<;>rfl
    · rw [List.mem_singleton.1 hx]
      have hvl:=h.vl
      refine a7k hm (.inr (.inl ⟨rfl,hb,rfl,⟨by simp; omega,fun v hv=>(h.vs v (List.mem_of_mem_drop hv)).1⟩,by simp; omega⟩)) hs
theorem b6s (n:a6) (b:Int):(a07 n b).Id=n.Id:=by
  unfold a07
  cases n.Phase != 0&&decide (b>n.Bal)<;>rfl
theorem d5a {a:s6} {b:Int} {k:Nat} {e:b5} (h:U6 a b (k:Int) e=none) (hk:k<40) (he:q9 e=true) (hb:1≤b∧b≤3000):b<a.Promised:=by
  by_cases q:a.Promised≤b
  · rw [d3B hk he hb.1 hb.2 q] at h; cases h
  · omega
theorem d86 {n:a6} (h:NI n) {m:a8} (hm:MI m) (hk:m.Kind=3):V3 n (a5I n m):=by
  have hb:(1≤m.Bal∧m.Bal≤3000)∧m.Slot<40∧q9 m.Entry=true:=by
    rcases hm.kd with q | q | q | q | q | q | q
    · omega
    · omega
    · exact ⟨q.2.1,q.2.2.1,q.2.2.2.1⟩
    all_goals exact absurd q.1 (by omega)
  have hs:=hm.sl
  obtain ⟨k,hsk⟩ : ∃ k:Nat,m.Slot=(k:Int):=⟨m.Slot.toNat,by omega⟩
  unfold a5I
  cases hp:U6 n.Acc m.Bal m.Slot m.Entry with
  | none =>
    rw [hsk] at hp
    have:=d5a hp (by omega) hb.2.2 hb.1
    refine ⟨h,rfl,fun x hx => ?_⟩
    rw [List.mem_singleton.1 hx]
    exact a7k hm (.refuse (by have:=h.pr; omega)) (by simp)
  | some a =>
    refine ⟨(h.cast hp).yield m.Bal,b6s _ _,fun x hx => ?_⟩
    rw [List.mem_singleton.1 hx]
    exact a7k hm (.one (.inr rfl) hb.1) hs
theorem d5m {n:a6} (h:NI n) {m:a8} (hm:MI m) (hk:m.Kind=2):V3 n (a5m n m):=by
  have hkd:(m.Votes.length≤40 ∧ ∀ v∈m.Votes,VI v)∧m.Slot+m.Votes.length≤40:=by
    rcases hm.kd with q | q | q | q | q | q | q
    · omega
    · exact ⟨q.2.2.2.1,q.2.2.2.2⟩
    all_goals exact absurd q.1 (by omega)
  have hs:=hm.sl
  have hf:=hm.fr
  unfold a5m
  cases hc:n.Phase != 1||m.Bal != n.Bal
  · simp only [Bool.or_eq_false_iff,bne_eq_false_iff_eq] at hc
    simp only [cond_false]
    have hl:Own n∧n.From.length=3∧n.From[n.Id.toNat]?=some true∧n.Cur=zE∧n.Votes=[]:=by
      rcases h.ld with q | q | q | q
      · omega
      · exact q.2
      all_goals exact absurd q.1 (by omega)
    have hbl:=b2i n.Best (List.replicate m.Slot.toNat v0++m.Votes)
    have hob:=hl.1.bl
    have hlen:(List.replicate m.Slot.toNat v0++m.Votes).length≤40:=by simp; omega
    have hbs : ∀ v∈I5 n.Best (List.replicate m.Slot.toNat v0++m.Votes),VI v:=fun v hv=>(c8Z hv).elim (fun q=>hl.1.bs v q) (fun q=>(List.mem_append.1 q).elim (fun q=>by rw [(List.mem_replicate.1 q).2]; exact .inl rfl) (hkd.1.2 v))
    cases two (n.From.set m.From.toNat true)
    · simp only [cond_false]
      refine ⟨⟨h.id,h.pr,h.vl,h.vs,h.kl,h.ks,h.sq,h.ql,h.qs,.inr (.inl ⟨hc.1,⟨hl.1.b1,hl.1.b2,hl.1.mod,hl.1.pr,by show (I5 _ _).length≤40; omega,hbs⟩,by simp [hl.2.1],?_,hl.2.2.2.1,hl.2.2.2.2⟩),h.wt⟩,rfl,by simp⟩
      show (n.From.set m.From.toNat true)[n.Id.toNat]?=some true
      by_cases q:m.From.toNat=n.Id.toNat
      · rw [q,List.getElem?_set_self (by have:=h.id; omega)]
      · rw [List.getElem?_set_ne q]; exact hl.2.2.1
    · simp only [cond_true]
      refine V3.to (n:=n) (n':={ n with From:=[],Best:=I5 n.Best (List.replicate m.Slot.toNat v0++m.Votes),Phase:=2 }) rfl (a9E ?_)
      exact ⟨h.id,h.pr,h.vl,h.vs,h.kl,h.ks,h.sq,h.ql,h.qs,.inr (.inr (.inl ⟨rfl,⟨hl.1.b1,hl.1.b2,hl.1.mod,hl.1.pr,by show (I5 _ _).length≤40; omega,hbs⟩,rfl,hl.2.2.2.1,hl.2.2.2.2⟩)),h.wt⟩
  · exact .same h
theorem d4v {n:a6} (h:NI n) {m:a8} (hm:MI m):a5l n (a8d n m):=by
  have hf:=hm.fr
  unfold a8d
  cases hc:n.Phase != 3||(m.Bal != n.Bal||m.Slot != (n.Known.length:Int))
  · simp only [Bool.or_eq_false_iff,bne_eq_false_iff_eq] at hc
    simp only [cond_false]
    have hl:Own n∧n.From=[]∧q9 n.Cur=true∧n.Votes.length=3∧n.Votes[n.Id.toNat]?=some true∧n.Known.length<40:=by
      rcases h.ld with q | q | q | q
      · omega
      · omega
      · omega
      · exact q.2
    have hn:NI { n with Votes:=n.Votes.set m.From.toNat true }:=by
      refine ⟨h.id,h.pr,h.vl,h.vs,h.kl,h.ks,h.sq,h.ql,h.qs,.inr (.inr (.inr ⟨hc.1,⟨hl.1.b1,hl.1.b2,hl.1.mod,hl.1.pr,hl.1.bl,hl.1.bs⟩,hl.2.1,hl.2.2.1,by simp [hl.2.2.2.1],?_,hl.2.2.2.2.2⟩)),h.wt⟩
      show (n.Votes.set m.From.toNat true)[n.Id.toNat]?=some true
      by_cases q:m.From.toNat=n.Id.toNat
      · rw [q,List.getElem?_set_self (by have:=h.id; omega)]
      · rw [List.getElem?_set_ne q]; exact hl.2.2.2.2.1
    cases two (n.Votes.set m.From.toNat true)
    · exact ⟨hn,rfl,by simp,by simp⟩
    · simp only [cond_true]
      have hr:=c1b hn hl.2.2.1 hl.2.2.2.2.2
      refine ⟨hr.ni,hr.id,fun x hx => ?_,hr.ts⟩
      rcases List.mem_append.1 hx with q | q
      · exact a4T h.id (.chosen (by omega) hl.2.2.1) (by simp only; omega) x q
      · exact hr.ms x q
  · exact .same h
theorem d2I {n:a6} (h:NI n) {m:a8} (hm:MI m) (hk:m.Kind=5):a5l n (a7v n m):=by
  have hkd:m.Slot<40∧q9 m.Entry=true:=by
    rcases hm.kd with q | q | q | q | q | q | q
    · omega
    · omega
    · omega
    · exact ⟨q.2.2.1,q.2.2.2.1⟩
    all_goals exact absurd q.1 (by omega)
  have hkl:=h.kl
  unfold a7v
  cases h1:decide (m.Slot<(n.Known.length:Int))
  · cases h2:decide (m.Slot>(n.Known.length:Int))
    · simp only [decide_eq_false_iff_not] at h1 h2
      exact c1b h hkd.2 (by omega)
    · refine ⟨h,rfl,fun x hx => ?_,by simp⟩
      rw [List.mem_singleton.1 hx]
      exact a7k hm .need (by simp only; omega)
  · exact .same h
theorem d1I {n:a6} (h:NI n) {m:a8} (hm:MI m) (hk:m.Kind=7):V3 n (a6k n m):=by
  have hkd:q9 m.Entry=true∧m.Entry.None=false:=by
    rcases hm.kd with q | q | q | q | q | q | q
    · omega
    · omega
    · omega
    · omega
    · omega
    · exact ⟨q.2.2.2.1,q.2.2.2.2.1⟩
    · omega
  unfold a6k
  cases hc:n.Phase==0||(decide (4≤n.Queue.length)||U7 n.Known m.Entry.Req)
  · simp only [cond_false]
    simp only [Bool.or_eq_false_iff,decide_eq_false_iff_not] at hc
    refine V3.to (n:=n) (n':={ n with Queue:=n.Queue++[m.Entry] }) rfl (a9E (h.queue (by simp; omega) ?_))
    intro e he
    rcases List.mem_append.1 he with q | q
    · exact h.qs e q
    · rw [List.mem_singleton.1 q]; exact hkd
  · exact .same h
theorem d2J {n:a6} (h:NI n) {m:a8} (hm:MI m) : ∀ x∈a6e n m,MI x:=by
  intro x hx
  unfold a6e at hx
  obtain ⟨l,hl,hx⟩:=List.mem_flatten.1 hx
  obtain ⟨j,hj,rfl⟩:=List.mem_map.1 hl
  have hkl:=h.kl
  unfold a29 at hx
  cases hg:n.Known[m.Slot.toNat+j]? with
  | none=>rw [hg] at hx; cases hx
  | some e =>
    rw [hg] at hx
    have hlt:=(List.getElem?_eq_some_iff.1 hg).1
    rw [List.mem_singleton.1 hx]
    exact a7k hm (.chosen (by omega) (h.ks e (List.mem_of_getElem? hg))) (by simp only; omega)
theorem d2E {n:a6} (h:NI n) {m:a8} (hm:MI m):a5l n (a2G n m):=by
  unfold a2G
  by_cases k1:m.Kind=1
  · rw [show (m.Kind==1)=true by simpa using k1]; exact (c9X h hm k1).three
  rw [show (m.Kind==1)=false by simpa using k1]
  by_cases k2:m.Kind=2
  · rw [show (m.Kind==2)=true by simpa using k2]; exact (d5m h hm k2).three
  rw [show (m.Kind==2)=false by simpa using k2]
  by_cases k3:m.Kind=3
  · rw [show (m.Kind==3)=true by simpa using k3]; exact (d86 h hm k3).three
  rw [show (m.Kind==3)=false by simpa using k3]
  by_cases k4:m.Kind=4
  · rw [show (m.Kind==4)=true by simpa using k4]; exact d4v h hm
  rw [show (m.Kind==4)=false by simpa using k4]
  by_cases k5:m.Kind=5
  · rw [show (m.Kind==5)=true by simpa using k5]; exact d2I h hm k5
  rw [show (m.Kind==5)=false by simpa using k5]
  by_cases k6:m.Kind=6
  · rw [show (m.Kind==6)=true by simpa using k6]
    simp only [cond_true,cond_false]
    cases hp:R7 n.Acc m.Bal with
    | none=>exact ⟨h.yield _,b6s _ _,by simp,by simp⟩
    | some a=>exact ⟨(h.promise hp).yield _,b6s _ _,by simp,by simp⟩
  rw [show (m.Kind==6)=false by simpa using k6]
  by_cases k7:m.Kind=7
  · rw [show (m.Kind==7)=true by simpa using k7]; exact (d1I h hm k7).three
  rw [show (m.Kind==7)=false by simpa using k7]
  cases m.Kind==8
  · exact .same h
  · exact ⟨h,rfl,d2J h hm,by simp⟩
structure d0f (n x:a6):Prop where
  id:x.Id=n.Id
  known:x.Known=n.Known
  seq:x.Seq=n.Seq
  busy:x.Busy=n.Busy
  prog:x.Prog=n.Prog
  want:x.Want=n.Want
theorem c7H (n:a6):d0f n (Z6 n).1:=by
  unfold Z6
  cases n.Phase != 2||decide (40≤n.Known.length)
  · simp only [cond_false]
    obtain ⟨q,hq,_⟩:=b8i n
    cases hx:a2V n with
    | mk x o =>
    rw [hx] at hq
    have hq:x={ n with Queue:=q }:=hq
    subst hq
    cases o with
    | none=>exact ⟨rfl,rfl,rfl,rfl,rfl,rfl⟩
    | some e =>
      simp only [a9R]
      cases U6 n.Acc n.Bal (n.Known.length:Int) e<;>exact ⟨rfl,rfl,rfl,rfl,rfl,rfl⟩
  · exact ⟨rfl,rfl,rfl,rfl,rfl,rfl⟩
def a3I (n:a6):List g7:=(l9 n.Known).1.Boxes
theorem c7Q {n:a6} (h:NI n):G3 (a3I n)=true:=by
  obtain ⟨a,b⟩:=a1K h.list
  have:=(X4 a b n.Known.length (Nat.le_refl _)).1.boxes
  rwa [List.take_length] at this
theorem d2s {n:a6} (h:NI n):b1L n=some (l9 n.Known).1:=by
  unfold b1L
  rw [a8h h.ok,Option.bind_some,a5q.2 h]
  simp only [Bool.not_true,cond_false]
  rw [d0p (okEntries.f h.ok.2.2.1) h.list]
  rfl
theorem d7i {l:List g7} {p:List j6} (h:(z4 l p).Code≠3):L0 p=true:=by
  unfold z4 at h
  cases hp:L0 p
  · rw [hp,Bool.and_false] at h; exact absurd rfl h
  · rfl
def a05 (n:a6) (prog:List j6):a6:={ n with Seq:=n.Seq+1,Busy:=true,Prog:=prog,Want:=⟨false,⟨n.Id,n.Seq+1⟩,z4 (a3I n) prog⟩ }
def U0 (n:a6) (prog:List j6):Bool := !(n.Busy||(n.Seq==1000||(z4 (a3I n) prog).Code==3))
theorem b6L {n:a6} {prog:List j6}:U0 n prog=true↔n.Busy=false∧n.Seq≠1000∧(z4 (a3I n) prog).Code≠3:=by
  unfold U0
  simp
theorem b27 {n:a6} (h:NI n) {prog:List j6} (hp:n7 prog) (hc:U0 n prog=true):q9 (a05 n prog).Want=true∧L0 prog=true:=by
  obtain ⟨h1,h2,h3⟩:=b6L.1 hc
  have hr:=(c9u (c7Q h) hp).ok
  have hs:=h.sq
  have hid:=h.id
  refine ⟨?_,d7i h3⟩
  unfold q9 a05
  simp only [cond_false,Bool.and_eq_true,R0,hr,true_and,bne_iff_ne,ne_eq]
  exact ⟨⟨hid,by omega⟩,h3⟩
theorem NI.asked {n:a6} (h:NI n) {prog:List j6} (hp:n7 prog) (hc:U0 n prog=true):NI (a05 n prog):=by
  obtain ⟨h1,h2,h3⟩:=b6L.1 hc
  obtain ⟨h4,h5⟩:=b27 h hp hc
  have hs:=h.sq
  exact ⟨h.id,h.pr,h.vl,h.vs,h.kl,h.ks,by show 0≤n.Seq+1∧n.Seq+1≤1000; omega,h.ql,h.qs,h.ld,.inl ⟨rfl,h5,h4,rfl,rfl⟩⟩
theorem b01 (n:a6) (prog:List j6):a0q n prog=bif U0 n prog then (bif n.Phase==2 then Z6 (a05 n prog) else (a05 n prog,bif n.Phase==0 then T2 n.Id ⟨7,0,0,0,0,(a05 n prog).Want,[]⟩ else [])) else (n,[]):=by
  unfold a0q U0 a05 a3I
  cases n.Busy||(n.Seq==1000||(z4 (l9 n.Known).1.Boxes prog).Code==3)<;>rfl
theorem d3X {n:a6} (h:NI n) {prog:List j6} (hp:v5 32 okT prog):b36 n prog=some ((a0q n prog).1,(a0q n prog).2,[]):=by
  have hf:n7 prog:=hp.fits (by decide)
  have hs:=h.sq
  unfold b36
  rw [a8h h.ok,Option.bind_some,a5q.2 h,a9A h.ok,d2s h,b01]
  simp only [Bool.not_true,cond_false,Option.bind_some]
  rw [show (l9 n.Known).1.Boxes=a3I n from rfl,c5F (a4r (c7Q h)) hf,Option.bind_some]
  cases hb:n.Busy
  · cases hq:n.Seq==1000
    · cases hc:(z4 (a3I n) prog).Code==3
      · have hca:U0 n prog=true:=by unfold U0; rw [hb,hq,hc]; rfl
        have hn:=h.asked hf hca
        rw [hca]
        simp only [cond_true,cond_false]
        rw [o9 (by have:=hp.1; simp; omega),B0 (by omega) (by omega)]
        cases h2:n.Phase==2
        · cases h0:n.Phase==0
          · rfl
          · simp only [cond_false,cond_true]
            rw [a4Z h.id (show a1V ⟨7,0,0,0,0,⟨false,⟨n.Id,n.Seq+1⟩,z4 (a3I n) prog⟩,[]⟩ from a5P (q8 (by omega)) a0b a0b (a2p (b27 h hf hca).1) T5)]
            rfl
        · simp only [cond_true]
          rw [show (⟨n.Id,n.Acc,n.Known,n.Seq+1,n.Phase,n.Bal,n.From,n.Best,n.Cur,n.Votes,true,[]++prog,⟨false,⟨n.Id,n.Seq+1⟩,z4 (a3I n) prog⟩,n.Queue⟩:a6)=a05 n prog from rfl,a9g hn.ok hn.id,Option.bind_some]
      · have hca:U0 n prog=false:=by unfold U0; rw [hb,hq,hc]; rfl
        rw [hca]; rfl
    · have hca:U0 n prog=false:=by unfold U0; rw [hb,hq]; rfl
      rw [hca]; rfl
  · have hca:U0 n prog=false:=by unfold U0; rw [hb]; rfl
    rw [hca]; rfl
theorem d0l {n:a6} (h:NI n) {prog:List j6} (hp:n7 prog):V3 n (a0q n prog):=by
  rw [b01]
  cases hc:U0 n prog
  · exact .same h
  · have hn:=h.asked hp hc
    simp only [cond_true]
    cases n.Phase==2
    · refine ⟨hn,rfl,fun x hx => ?_⟩
      simp only [cond_false] at hx
      cases h0:n.Phase==0
      · rw [h0] at hx; cases hx
      · rw [h0] at hx
        exact a4T h.id (.ask (b27 h hp hc).1 rfl) (by simp) x hx
    · exact V3.to (n:=n) (n':=a05 n prog) rfl (a9E hn)
theorem c5y {b who:Int} (hb:0≤b∧b≤3000) (hw:0≤who∧who≤2):a0a b who = -1∨(b<a0a b who∧a0a b who≤b+3∧a0a b who≤3000∧Int.tmod (a0a b who) 3=who):=by
  unfold a0a
  cases h1:decide (b+1≤3000)&&(Int.tmod (b+1) 3==who)
  · cases h2:decide (b+2≤3000)&&(Int.tmod (b+2) 3==who)
    · cases h3:decide (b+3≤3000)&&(Int.tmod (b+3) 3==who)
      · exact .inl rfl
      · simp only [Bool.and_eq_true,decide_eq_true_eq,beq_iff_eq] at h3
        exact .inr ⟨by simp only [cond_true,cond_false]; omega,by simp only [cond_true,cond_false]; omega,h3.1,h3.2⟩
    · simp only [Bool.and_eq_true,decide_eq_true_eq,beq_iff_eq] at h2
      exact .inr ⟨by simp only [cond_true,cond_false]; omega,by simp only [cond_true,cond_false]; omega,h2.1,h2.2⟩
  · simp only [Bool.and_eq_true,decide_eq_true_eq,beq_iff_eq] at h1
    exact .inr ⟨by simp only [cond_true,cond_false]; omega,by simp only [cond_true,cond_false]; omega,h1.1,h1.2⟩
theorem d7r {n:a6} (h:NI n):b08 n=some (a4w n):=by
  unfold b08 a4w
  rw [a8h h.ok,Option.bind_some,a5q.2 h,a9A h.ok]
  simp only [Bool.not_true,cond_false,Option.bind_some]
  rw [d9p h.pr h.id,Option.bind_some]
  cases hd:decide (a0a n.Acc.Promised n.Id<0)
  · simp only [decide_eq_false_iff_not] at hd
    rcases c5y h.pr h.id with q | ⟨q1,q2,q3,q4⟩
    · omega
    · have hpr:=h.pr
      have hkl:=h.kl
      obtain ⟨y,hy⟩:=c76 h.id
      simp only [cond_false,a9o,Option.bind_some,b1g,b8v (a:=n.Acc) (show 1≤a0a n.Acc.Promised n.Id by omega) q3 (by omega),hy,d5k h.ok.2.1.2]
      rw [o9 (by omega),o9 trivial,a4Z h.id (a5P (q8 (by omega)) (q8 (by omega)) (q8 (by omega)) a0G T5)]
      rfl
  · rfl
theorem d8z {n:a6} (h:NI n):V3 n (a4w n):=by
  unfold a4w
  cases hd:decide (a0a n.Acc.Promised n.Id<0)
  · simp only [decide_eq_false_iff_not] at hd
    have hpr:=h.pr
    have hkl:=h.kl
    rcases c5y h.pr h.id with q | ⟨q1,q2,q3,q4⟩
    · omega
    · obtain ⟨m1,m2⟩:=b8D h.id
      refine ⟨⟨h.id,⟨by simp only [cond_false]; omega,q3⟩,h.vl,fun v hv=>⟨(h.vs v hv).1,Int.le_trans (h.vs v hv).2 (Int.le_of_lt q1)⟩,h.kl,h.ks,h.sq,h.ql,h.qs,.inr (.inl ⟨rfl,⟨by simp only [cond_false]; omega,q3,q4,Int.le_refl _,h.vl,fun v hv=>(h.vs v hv).1⟩,m1,m2,rfl,rfl⟩),h.wt⟩,rfl,?_⟩
      exact a4T h.id (.one (.inl rfl) ⟨by omega,q3⟩) (by simp only; omega)
  · exact .same h
theorem c2j {k b s:Int} (hk:0≤k∧k≤8) (hb:0≤b∧b≤3000) (hs:0≤s∧s≤40):a1V ⟨k,0,0,b,s,zE,[]⟩:=a5P (q8 (by omega)) (q8 (by omega)) (q8 (by omega)) a0G T5
theorem c9r {n:a6} (h:NI n):b3o n=some ((a3n n).1,(a3n n).2,[]):=by
  have hkl:=h.kl
  have hb:=h.ld.bal
  have l1:=a1y n.Id ⟨8,0,0,0,(n.Known.length:Int),zE,[]⟩
  unfold b3o a3n
  rw [a8h h.ok,Option.bind_some,a5q.2 h,a9A h.ok]
  simp only [Bool.not_true,cond_false,Option.bind_some]
  rw [a4Z h.id (c2j (by omega) (by omega) (by omega)),Option.bind_some]
  cases h1:n.Phase==1
  · cases h2:n.Phase==2
    · cases h3:n.Phase==3
      · cases hbz:n.Busy
        · rfl
        · simp only [cond_true,cond_false]
          have l2:=a1y n.Id ⟨7,0,0,0,0,n.Want,[]⟩
          have hw:E9 n.Want:=h.ok.2.2.2.2.2.2.2.2.2.2.2.1
          rw [a4Z h.id (a5P (q8 (by omega)) a0b a0b hw T5),Option.bind_some,o9 (by omega)]
          rfl
      · simp only [cond_true,cond_false]
        have l2:=a1y n.Id ⟨3,0,0,n.Bal,(n.Known.length:Int),n.Cur,[]⟩
        rw [a4Z h.id (a5P (q8 (by omega)) (q8 (by omega)) (q8 (by omega)) h.ld.from3.2.2 T5),Option.bind_some,o9 (by omega)]
        rfl
    · simp only [cond_true,cond_false]
      have l2:=a49 n
      rw [a9g h.ok h.id,Option.bind_some,o9 (by omega)]
      rfl
  · simp only [cond_true,cond_false]
    have l2:=a1y n.Id ⟨1,0,0,n.Bal,(n.Known.length:Int),zE,[]⟩
    rw [a4Z h.id (c2j (by omega) (by omega) (by omega)),Option.bind_some,o9 (by omega)]
    rfl
theorem d1i {n:a6} (h:NI n):V3 n (a3n n):=by
  have hkl:=h.kl
  have hb:=h.ld.bal
  have a1 : ∀ x∈T2 n.Id ⟨8,0,0,0,(n.Known.length:Int),zE,[]⟩,MI x:=a4T h.id .need (by simp only; omega)
  have two : ∀ {l:List a8},(∀ x∈l,MI x) → ∀ x∈T2 n.Id ⟨8,0,0,0,(n.Known.length:Int),zE,[]⟩++l,MI x:=by
    intro l hl x hx
    rcases List.mem_append.1 hx with q | q
    · exact a1 x q
    · exact hl x q
  unfold a3n
  by_cases h1:n.Phase=1
  · rw [show (n.Phase==1)=true by simpa using h1]
    refine ⟨h,rfl,two (a4T h.id (.one (.inl rfl) ?_) (by simp only; omega))⟩
    rcases h.ld with q | q | q | q
    · omega
    · exact ⟨q.2.1.b1,q.2.1.b2⟩
    all_goals exact absurd q.1 (by omega)
  rw [show (n.Phase==1)=false by simpa using h1]
  by_cases h2:n.Phase=2
  · rw [show (n.Phase==2)=true by simpa using h2]
    have:=a9E h
    exact ⟨this.ni,this.id,two this.ms⟩
  rw [show (n.Phase==2)=false by simpa using h2]
  by_cases h3:n.Phase=3
  · rw [show (n.Phase==3)=true by simpa using h3]
    rcases h.ld with q | q | q | q
    · omega
    · omega
    · omega
    · exact ⟨h,rfl,two (a4T h.id (.accept ⟨q.2.1.b1,q.2.1.b2⟩ (by omega) q.2.2.2.1) (by simp only; omega))⟩
  rw [show (n.Phase==3)=false by simpa using h3]
  cases hbz:n.Busy
  · exact ⟨h,rfl,a1⟩
  · rcases h.wt with q | q
    · exact ⟨h,rfl,two (a4T h.id (.ask q.2.2.1 q.2.2.2.1) (by simp))⟩
    · rw [hbz] at q; cases q.1
theorem d6w {n:a6} (h:NI n):b25 n=some (b0X n):=by
  unfold b25
  rw [a8h h.ok,Option.bind_some,a5q.2 h,a9A h.ok]
  rfl
theorem NI.open {id:Int} (h:0≤id∧id≤2):NI (H5 id) :=
  ⟨h,⟨by simp [H5],by simp [H5]⟩,by simp [H5],by simp [H5],by simp [H5],by simp [H5],⟨by simp [H5],by simp [H5]⟩,by simp [H5],by simp [H5],.inl ⟨rfl,rfl,rfl,rfl,rfl,rfl⟩,.inr ⟨rfl,rfl,rfl⟩⟩
theorem NI.fall {n:a6} (h:NI n):NI (b0X n) :=
  ⟨h.id,h.pr,h.vl,h.vs,h.kl,h.ks,h.sq,by simp [b0X,H5],by simp [b0X,H5],.inl ⟨rfl,rfl,rfl,rfl,rfl,rfl⟩,.inr ⟨rfl,rfl,rfl⟩⟩
theorem c3t {l:List a8} (hl:n7 l) (ho : ∀ m∈l,a1V m) : ∀ (d k:Nat) (net:List a8),l.length - k=d→m5 (fun s:(List a8)×Int=>a2v l s.1 s.2) (net,(k:Int))=some (.brk (net++(l.drop k).take (40 - net.length)))
  | 0,k,net,hd=>by
    rw [List.drop_eq_nil_of_le (by omega)]
    refine (D6 (b:=net) ?_).trans (by simp)
    show a2v l net (k:Int)=_
    unfold a2v
    rw [show decide ((k:Int)<(l.length:Int))=false by simp; omega]
    rfl
  | d+1,k,net,hd=>by
    have hlt:k<l.length:=by omega
    by_cases hn:net.length<40
    · have hb:a2v l net (k:Int)=some (.nxt (net++[l[k]],((k+1:Nat):Int))):=by
        unfold a2v
        rw [u5 _ k hlt,show decide ((net.length:Int)<40)=true by simp; omega,cond_true,cond_true,p9 hlt,Option.bind_some,b2L (ho _ (List.getElem_mem hlt)),Option.bind_some,o9 (by omega),H6 hl hlt]
      rw [M3 (body:=fun s:(List a8)×Int=>a2v l s.1 s.2) (s:=(net,(k:Int))) hb,c3t hl ho d (k+1) _ (by omega),List.drop_eq_getElem_cons hlt]
      rw [show 40 - net.length=(40 - (net++[l[k]]).length)+1 by simp; omega,List.take_succ_cons,List.append_assoc]
      rfl
    · refine (D6 (b:=net) ?_).trans (by rw [show 40 - net.length=0 by omega]; simp)
      show a2v l net (k:Int)=_
      unfold a2v
      rw [u5 _ k hlt,show decide ((net.length:Int)<40)=false by simp; omega]
      rfl
theorem a3U (w:f0) {l:List a8} (hl:n7 l) (ho : ∀ m∈l,a1V m):a2o w l=some (a2i w l):=by
  unfold a2o
  rw [show m5 (fun s:(List a8)×Int=>a2v l s.1 s.2) (w.Net,0)=_ from c3t hl ho l.length 0 w.Net rfl]
  rfl
theorem c4R {l:List e9} (hl:n7 l) : ∀ (d k:Nat) (o:List e9),l.length - k=d→m5 (fun s:(List e9)×Int=>a2x l s.1 s.2) (o,(k:Int))=some (.brk (o++(l.drop k).take (60 - o.length)))
  | 0,k,o,hd=>by
    rw [List.drop_eq_nil_of_le (by omega)]
    refine (D6 (b:=o) ?_).trans (by simp)
    show a2x l o (k:Int)=_
    unfold a2x
    rw [show decide ((k:Int)<(l.length:Int))=false by simp; omega]
    rfl
  | d+1,k,o,hd=>by
    have hlt:k<l.length:=by omega
    by_cases hn:o.length<60
    · have hb:a2x l o (k:Int)=some (.nxt (o++[l[k]],((k+1:Nat):Int))):=by
        unfold a2x
        rw [u5 _ k hlt,show decide ((o.length:Int)<60)=true by simp; omega,cond_true,cond_true,p9 hlt,Option.bind_some,o9 (by omega),H6 hl hlt]
      rw [M3 (body:=fun s:(List e9)×Int=>a2x l s.1 s.2) (s:=(o,(k:Int))) hb,c4R hl d (k+1) _ (by omega),List.drop_eq_getElem_cons hlt]
      rw [show 60 - o.length=(60 - (o++[l[k]]).length)+1 by simp; omega,List.take_succ_cons,List.append_assoc]
      rfl
    · refine (D6 (b:=o) ?_).trans (by rw [show 60 - o.length=0 by omega]; simp)
      show a2x l o (k:Int)=_
      unfold a2x
      rw [u5 _ k hlt,show decide ((o.length:Int)<60)=false by simp; omega]
      rfl
theorem a5r (w:f0) {l:List e9} (hl:n7 l):a2T w l=some (a6H w l):=by
  unfold a2T
  rw [show m5 (fun s:(List e9)×Int=>a2x l s.1 s.2) (w.Told,0)=_ from c4R hl l.length 0 w.Told rfl]
  rfl
theorem a8a (w:f0):a6H w []=w:=by
  unfold a6H; simp
theorem c45 (w:f0):a2i w []=w:=by
  unfold a2i; simp
theorem d7v {w:f0} {k:Nat} (hk:k<w.Net.length) (hl:w.Net.length≤40):b0i w (k:Int)=some (a4i w (k:Int)):=by
  unfold b0i a4i
  rw [o9 (by omega),o9 (by simp; omega),B0 (by omega) (by omega),o9 (by omega),o9 (by simp; omega)]
  simp only [List.nil_append,Nat.add_zero,List.drop_zero,Nat.sub_zero,Int.toNat_natCast,Nat.zero_add,show ((k:Int)+1).toNat=k+1 by omega]
  rw [List.take_of_length_le (l:=w.Net.drop (k+1)) (by simp)]
theorem b51 {w:f0} (h:WI w) {i:Nat} (hi:i<3) : ∃ n,w.Nodes[i]?=some n∧Z0 w (i:Int)=n∧n.Id=(i:Int)∧NI n∧i<w.Nodes.length:=by
  have hl:=h.nl
  have hg:=List.getElem?_eq_getElem (l:=w.Nodes) (i:=i) (by omega)
  obtain ⟨h1,h2⟩:=h.ns i _ hg
  refine ⟨_,hg,?_,h1,h2,by omega⟩
  unfold Z0
  rw [Int.toNat_natCast,List.getD_eq_getElem?_getD,hg]; rfl
theorem WI.put {w:f0} (h:WI w) {i:Nat} {n:a6} (hid:n.Id=(i:Int)) (hn:NI n):WI (a10 w (i:Int) n):=by
  refine ⟨by simp [a10,h.nl],?_,h.ml,h.ms,h.al,h.aq,h.tl,h.ts⟩
  intro j m hm
  simp only [a10,Int.toNat_natCast] at hm
  by_cases q:i=j
  · subst q
    have hlt:=(List.getElem?_eq_some_iff.1 hm).1
    rw [List.length_set] at hlt
    rw [List.getElem?_set_self hlt] at hm
    injection hm with hm; subst hm
    exact ⟨hid,hn⟩
  · rw [List.getElem?_set_ne q] at hm
    exact h.ns j m hm
theorem WI.send {w:f0} (h:WI w) {l:List a8} (hl : ∀ m∈l,MI m):WI (a2i w l):=by
  have:=h.ml
  refine ⟨h.nl,h.ns,by simp only [a2i,List.length_append,List.length_take]; omega,?_,h.al,h.aq,h.tl,h.ts⟩
  intro m hm
  rcases List.mem_append.1 hm with q | q
  · exact h.ms m q
  · exact hl m (List.mem_of_mem_take q)
theorem WI.tell {w:f0} (h:WI w) {l:List e9} (hl : ∀ t∈l,Z3 t=true):WI (a6H w l):=by
  have:=h.tl
  refine ⟨h.nl,h.ns,h.ml,h.ms,h.al,h.aq,by simp only [a6H,List.length_append,List.length_take]; omega,?_⟩
  intro m hm
  rcases List.mem_append.1 hm with q | q
  · exact h.ts m q
  · exact hl m (List.mem_of_mem_take q)
theorem WI.off {w:f0} (h:WI w) (i:Int):WI (a4i w i):=by
  have:=h.ml
  refine ⟨h.nl,h.ns,by simp only [a4i,List.length_append,List.length_take,List.length_drop]; omega,?_,h.al,h.aq,h.tl,h.ts⟩
  intro m hm
  rcases List.mem_append.1 hm with q | q
  · exact h.ms m (List.mem_of_mem_take q)
  · exact h.ms m (List.mem_of_mem_drop q)
theorem a7Q {l:List a8} (h:l.length≤100):n7 l:=by unfold n7; omega
theorem d81 (n:a6) (p:List j6):(a0q n p).2.length≤3:=by
  rw [b01]
  cases U0 n p
  · simp
  · cases n.Phase==2
    · cases n.Phase==0
      · simp
      · exact a1y _ _
    · exact a49 _
theorem MI.okl {l:List a8} (h : ∀ m∈l,MI m) : ∀ m∈l,a1V m:=fun m hm=>(h m hm).ok
theorem d8k (n:a6) (p:List j6):decide ((a0q n p).1.Seq>n.Seq)=U0 n p:=by
  rw [b01]
  cases U0 n p
  · simp
  · simp only [cond_true]
    cases n.Phase==2
    · simp [a05]; omega
    · have:=(c7H (a05 n p)).seq
      simp only [cond_true,this]
      simp [a05]; omega
theorem d5F {n:a6} {p:List j6} (h:U0 n p=true):(a0q n p).1.Want=(a05 n p).Want:=by
  rw [b01,h]
  simp only [cond_true]
  cases n.Phase==2
  · rfl
  · exact (c7H (a05 n p)).want
def d5A (w:f0) (a:j9):f0:={ w with Asked:=w.Asked++[a] }
theorem WI.addAsked {w:f0} (h:WI w) {a:j9} (hl:w.Asked.length<60) (ha:a2b a=true):WI (d5A w a):=by
  refine ⟨h.nl,h.ns,h.ml,h.ms,by simp only [d5A,List.length_append,List.length_singleton]; omega,?_,h.tl,h.ts⟩
  intro x hx
  rcases List.mem_append.1 hx with q | q
  · exact h.aq x q
  · rw [List.mem_singleton.1 q]; exact ha
theorem d2a {w:f0} (h:WI w) {i:Nat} (hi:i<3) {p:List j6} (hp:v5 32 okT p):b1f w (i:Int) p=some (b4r w (i:Int) p)∧WI (b4r w (i:Int) p):=by
  obtain ⟨n,hg,hn,hid,hni,hlt⟩:=b51 h hi
  have hf:n7 p:=hp.fits (by decide)
  have hr:=d0l hni hf
  have hln:=d81 n p
  have hms:=MI.okl hr.ms
  have hal:=h.al
  unfold b1f b4r
  rw [hn,show decide ((w.Asked.length:Int)≥60)=decide (60≤w.Asked.length) by simp; omega,b1k,hg,Option.bind_some,d3X hni hp,Option.bind_some]
  cases hd:decide (60≤w.Asked.length)
  · simp only [cond_false]
    simp only [decide_eq_false_iff_not] at hd
    rw [d8k]
    cases hc:U0 n p
    · simp only [cond_false]
      rw [a3U _ (a7Q (by omega)) hms,Option.bind_some,a5r _ (by simp [n7]),a8a]
      exact ⟨rfl,(h.put (hr.id.trans hid) hr.ni).send hr.ms⟩
    · simp only [cond_true]
      rw [o9 (by have:=hp.1; simp; omega),o9 (by omega),a3U _ (a7Q (by omega)) hms,Option.bind_some,a5r _ (by simp [n7]),a8a]
      refine ⟨rfl,WI.send (w:=a10 (d5A w ⟨(a0q n p).1.Want.Req,p⟩) (i:Int) (a0q n p).1) (WI.put (w:=d5A w ⟨(a0q n p).1.Want.Req,p⟩) (h.addAsked (by omega) ?_) (hr.id.trans hid) hr.ni) hr.ms⟩
      rw [d5F hc]
      obtain ⟨w1,w2⟩:=b27 hni hf hc
      obtain ⟨c1,c2,c3⟩:=b6L.1 hc
      unfold a2b
      have:=hni.id
      have:=hni.sq
      simp only [Bool.and_eq_true,R0,w2,and_true]
      show (0≤n.Id∧n.Id≤2)∧1≤n.Seq+1∧n.Seq+1≤1000
      omega
  · exact ⟨rfl,h⟩
theorem d6h {n:a6} (h:NI n) (m:a8):(a2G n m).2.1.length≤60∧(a2G n m).2.2.length≤1:=by
  have hkl:=h.kl
  have al : ∀ n:a6,(a08 n).2.length≤1:=fun n=>by
    rcases b3e n with q | ⟨k,_,_,q⟩<;>rw [q]<;>simp
  have ll : ∀ (n:a6) (e:b5),(a2D n e).2.1.length≤3∧(a2D n e).2.2.length≤1:=fun n e=>⟨a49 _,al _⟩
  have nl:(a6e n m).length≤40:=by
    unfold a6e
    have : ∀ d k:Nat,((List.range d).map fun j=>a29 n m (k+j)).flatten.length≤d:=by
      intro d k
      rw [List.length_flatten,List.map_map]
      have hs : ∀ (l:List Nat),((l.map (List.length ∘ fun j=>a29 n m (k+j))).sum)≤l.length:=by
        intro l
        induction l with
        | nil=>simp
        | cons x l ih =>
          simp only [List.map_cons,List.sum_cons,List.length_cons,Function.comp]
          have:(a29 n m (k+x)).length≤1:=by
            unfold a29
            cases n.Known[k+x]?<;>simp
          omega
      have:=hs (List.range d)
      rwa [List.length_range] at this
    have:=this (n.Known.length - m.Slot.toNat) m.Slot.toNat
    omega
  unfold a2G
  cases m.Kind==1
  · cases m.Kind==2
    · cases m.Kind==3
      · cases m.Kind==4
        · cases m.Kind==5
          · cases m.Kind==6
            · cases m.Kind==7
              · cases m.Kind==8
                · exact ⟨by simp,by simp⟩
                · exact ⟨by simp only [cond_true,cond_false]; omega,by simp⟩
              · refine ⟨?_,by simp⟩
                simp only [cond_true,cond_false,a6k]
                cases n.Phase==0||(decide (4≤n.Queue.length)||U7 n.Known m.Entry.Req)
                · exact Nat.le_trans (a49 _) (by omega)
                · simp
            · exact ⟨by simp,by simp⟩
          · simp only [cond_true,cond_false,a7v]
            cases decide (m.Slot<(n.Known.length:Int))
            · cases decide (m.Slot>(n.Known.length:Int))
              · have:=ll n m.Entry
                exact ⟨by simp only [cond_false]; omega,by simp only [cond_false]; omega⟩
              · exact ⟨by simp,by simp⟩
            · exact ⟨by simp,by simp⟩
        · simp only [cond_true,cond_false,a8d]
          cases n.Phase != 3||(m.Bal != n.Bal||m.Slot != (n.Known.length:Int))
          · cases two (n.Votes.set m.From.toNat true)
            · exact ⟨by simp,by simp⟩
            · have h1:=ll { n with Votes:=n.Votes.set m.From.toNat true } n.Cur
              have h2:=a1y n.Id ⟨5,0,0,0,(n.Known.length:Int),n.Cur,[]⟩
              exact ⟨by simp only [cond_true,cond_false,List.length_append]; omega,by simp only [cond_true,cond_false]; omega⟩
          · exact ⟨by simp,by simp⟩
      · refine ⟨?_,by simp⟩
        simp only [cond_true,cond_false,a5I]
        cases U6 n.Acc m.Bal m.Slot m.Entry<;>simp
    · refine ⟨?_,by simp⟩
      simp only [cond_true,cond_false,a5m]
      cases n.Phase != 1||m.Bal != n.Bal
      · cases two (n.From.set m.From.toNat true)
        · simp
        · exact Nat.le_trans (a49 _) (by omega)
      · simp
  · refine ⟨?_,by simp⟩
    simp only [cond_true,a57]
    cases R7 n.Acc m.Bal<;>simp
theorem d8E {w:f0} (h:WI w) (e:g8):a8j w e=some (a9O w e)∧WI (a9O w e):=by
  have hml:=h.ml
  unfold a8j a9O
  by_cases h0:e.A<0
  · rw [show decide (e.A<0)=true by simpa using h0,show decide (0≤e.A)=false by simp; omega]
    exact ⟨rfl,h⟩
  · obtain ⟨k,hk⟩ : ∃ k:Nat,e.A=(k:Int):=⟨e.A.toNat,by omega⟩
    rw [hk,show decide ((k:Int)<0)=false by simp,show decide (0≤(k:Int))=true by simp,Int.toNat_natCast]
    simp only [cond_true,cond_false]
    by_cases hl:k<w.Net.length
    · rw [show decide ((k:Int)≥(w.Net.length:Int))=false by simp; omega,p9 hl,List.getElem?_eq_getElem hl]
      have hm:=h.ms _ (List.getElem_mem hl)
      generalize w.Net[k]=m at hm
      simp only [cond_false,Option.bind_some,b2L hm.ok]
      cases e.Kind==4
      · simp only [cond_false]
        rw [d7v hl hml]
        cases e.Kind==3
        · simp only [cond_false,Option.bind_some]
          have ho:=h.off (k:Int)
          have ht:=hm.to
          obtain ⟨t,htt⟩ : ∃ t:Nat,m.To=(t:Int):=⟨m.To.toNat,by omega⟩
          obtain ⟨n,hg,hn,hid,hni,hlt⟩:=b51 ho (i:=t) (by omega)
          have hn':Z0 w (t:Int)=n:=hn
          have hr:=d2E hni hm
          obtain ⟨l1,l2⟩:=d6h hni m
          rw [htt,b1k,hg,Option.bind_some,d59 hni hm,Option.bind_some,hn']
          rw [a3U _ (a7Q (by omega)) (MI.okl hr.ms),Option.bind_some,a5r _ (by unfold n7; omega)]
          exact ⟨rfl,((ho.put (hr.id.trans hid) hr.ni).send hr.ms).tell hr.ts⟩
        · exact ⟨rfl,h.off _⟩
      · simp only [cond_true]
        have hs : ∀ x∈[m],MI x:=fun x hx=>by rw [List.mem_singleton.1 hx]; exact hm
        rw [a3U _ (a7Q (by simp)) (MI.okl hs)]
        exact ⟨rfl,h.send hs⟩
    · rw [show decide ((k:Int)≥(w.Net.length:Int))=true by simp; omega,List.getElem?_eq_none (by omega)]
      exact ⟨rfl,h⟩
def U5 (e:g8):Prop:=v5 32 okT e.Prog
theorem d5b (n:a6):(a3n n).2.length≤6:=by
  have l0:=a1y n.Id ⟨8,0,0,0,(n.Known.length:Int),zE,[]⟩
  unfold a3n
  cases n.Phase==1
  · cases n.Phase==2
    · cases n.Phase==3
      · cases n.Busy
        · simp only [cond_false]; omega
        · have:=a1y n.Id ⟨7,0,0,0,0,n.Want,[]⟩
          simp only [cond_true,cond_false,List.length_append]; omega
      · have:=a1y n.Id ⟨3,0,0,n.Bal,(n.Known.length:Int),n.Cur,[]⟩
        simp only [cond_true,cond_false,List.length_append]; omega
    · have:=a49 n
      simp only [cond_true,cond_false,List.length_append]; omega
  · have:=a1y n.Id ⟨1,0,0,n.Bal,(n.Known.length:Int),zE,[]⟩
    simp only [cond_true,List.length_append]; omega
theorem c1d (n:a6):(a4w n).2.length≤3:=by
  unfold a4w
  cases decide (a0a n.Acc.Promised n.Id<0)
  · exact a1y _ _
  · simp
theorem c8b {w:f0} {i:Nat} {n:a6} (h:w.Nodes[i]?=some n):a10 w (i:Int) n=w:=by
  unfold a10
  rw [Int.toNat_natCast]
  obtain ⟨hi,rfl⟩:=List.getElem?_eq_some_iff.1 h
  rw [List.set_getElem_self]
theorem b2o {w:f0} (h:WI w) {e:g8} (he:U5 e):a6Q w e=some (F7 w e)∧WI (F7 w e):=by
  obtain ⟨n1,n2⟩:=d8E h e
  unfold a6Q F7
  rw [n1]
  cases e.Kind==2
  · cases e.Kind==3
    · cases e.Kind==4
      · simp only [cond_false,Bool.or_self]
        by_cases h0:e.A<0
        · rw [show decide (e.A<0)=true by simpa using h0,show j7 e.A 0 2=false by unfold j7; simp; omega]
          exact ⟨rfl,h⟩
        · by_cases h3:e.A≥3
          · rw [show decide (e.A<0)=false by simpa using h0,show decide (e.A≥3)=true by simpa using h3,show j7 e.A 0 2=false by unfold j7; simp; omega]
            exact ⟨rfl,h⟩
          · obtain ⟨i,hi⟩ : ∃ i:Nat,e.A=(i:Int):=⟨e.A.toNat,by omega⟩
            rw [show decide (e.A<0)=false by simpa using h0,show decide (e.A≥3)=false by simpa using h3,show j7 e.A 0 2=true by unfold j7; simp; omega,hi]
            simp only [cond_false,Bool.not_true]
            obtain ⟨n,hg,hn,hid,hni,hlt⟩:=b51 h (i:=i) (by omega)
            rw [b1k,hg,Option.bind_some,hn]
            cases e.Kind==1
            · simp only [cond_false]
              cases e.Kind==5
              · simp only [cond_false]
                cases e.Kind==6
                · simp only [cond_false]
                  cases e.Kind==7
                  · simp only [cond_false]
                    rw [a3U _ (by simp [n7]) (by simp),Option.bind_some,a5r _ (by simp [n7]),a8a,c45]
                    exact ⟨congrArg some (c8b hg),h⟩
                  · simp only [cond_true]
                    rw [d6w hni,Option.bind_some,a3U _ (by simp [n7]) (by simp),Option.bind_some,a5r _ (by simp [n7]),a8a,c45]
                    exact ⟨rfl,h.put hid hni.fall⟩
                · simp only [cond_true]
                  have hr:=d1i hni
                  have hl:=d5b n
                  rw [c9r hni,Option.bind_some,a3U _ (a7Q (by omega)) (MI.okl hr.ms),Option.bind_some,a5r _ (by simp [n7]),a8a]
                  exact ⟨rfl,(h.put (hr.id.trans hid) hr.ni).send hr.ms⟩
              · simp only [cond_true]
                have hr:=d8z hni
                have hl:=c1d n
                rw [d7r hni,Option.bind_some,a3U _ (a7Q (by omega)) (MI.okl hr.ms),Option.bind_some,a5r _ (by simp [n7]),a8a]
                exact ⟨rfl,(h.put (hr.id.trans hid) hr.ni).send hr.ms⟩
            · simp only [cond_true]
              obtain ⟨a1,a2⟩:=d2a h (i:=i) (by omega) he
              unfold b73
              rw [hi,show (⟨w.Nodes.set (i:Int).toNat n,w.Net,w.Asked,w.Told⟩:f0)=w from c8b hg,a1]
              exact ⟨rfl,a2⟩
      · exact ⟨rfl,n2⟩
    · exact ⟨rfl,n2⟩
  · exact ⟨rfl,n2⟩
theorem WI.open:WI a2t:=by
  refine ⟨rfl,?_,by simp [a2t],by simp [a2t],by simp [a2t],by simp [a2t],by simp [a2t],by simp [a2t]⟩
  intro i n hn
  match i,hn with
  | 0,hn=>injection hn with hn; subst hn; exact ⟨rfl,.open (by omega)⟩
  | 1,hn=>injection hn with hn; subst hn; exact ⟨rfl,.open (by omega)⟩
  | 2,hn=>injection hn with hn; subst hn; exact ⟨rfl,.open (by omega)⟩
  | i+3,hn=>simp [a2t] at hn
theorem c8n:b0j=some a2t:=by
  have e : ∀ (ns:List a6) (i:Nat),i<3→ns.length≤3→a24 ns (i:Int)=some (.nxt (ns++[H5 (i:Int)],((i+1:Nat):Int))):=by
    intro ns i hi hn
    unfold a24 b6y
    rw [show decide ((i:Int)<3)=true by simp; omega,show decide ((i:Int)<0)=false by simp,show decide ((i:Int)≥3)=false by simp; omega]
    simp only [cond_true,cond_false,Option.bind_some]
    rw [o9 (by omega),B0 (by omega) (by omega)]
    rfl
  have h0:=M3 (body:=fun s:(List a6)×Int=>a24 s.1 s.2) (s:=([],((0:Nat):Int))) (e [] 0 (by omega) (by simp))
  have h1:=M3 (body:=fun s:(List a6)×Int=>a24 s.1 s.2) (s:=([H5 0],((1:Nat):Int))) (e [H5 0] 1 (by omega) (by simp))
  have h2:=M3 (body:=fun s:(List a6)×Int=>a24 s.1 s.2) (s:=([H5 0,H5 1],((2:Nat):Int))) (e [H5 0,H5 1] 2 (by omega) (by simp))
  have h3:=D6 (body:=fun s:(List a6)×Int=>a24 s.1 s.2) (s:=([H5 0,H5 1,H5 2],((3:Nat):Int))) (show a24 [H5 0,H5 1,H5 2] 3=_ from rfl)
  unfold b0j
  rw [show m5 (fun s:(List a6)×Int=>a24 s.1 s.2) ([],0)=_ from h0.trans (h1.trans (h2.trans h3))]
  rfl
theorem c4H {w:f0} (h:WI w) : ∀ {l:List g8},(∀ e∈l,U5 e)→WI (a6r w l)
  | [],_=>h
  | e::l,he=>c4H (w:=F7 w e) (b2o h (he e (by simp))).2 (l:=l) fun x hx=>he x (by simp [hx])
theorem c7Z {w:f0} (h:a6x w):a88 w=some w:=by
  obtain ⟨h1,h2,h3,h4⟩:=h
  have b1:=h1.1
  have b2:=h2.1
  have b3:=h3.1
  unfold a88
  rw [o9 (b02 h4),a52 (body:=fun s:(List a6)×Int=>b0n w s.1 s.2) w.Nodes (h1.fits (by decide)) (fun l=>l) (by
    intro k hk
    have hn:((w.Nodes.take k).length+1) * 392≤140737488355328:=Nat.le_trans (Nat.mul_le_mul_right 392 (show (w.Nodes.take k).length+1≤w.Nodes.length by rw [List.length_take]; omega)) (Nat.le_trans b1 (by decide))
    unfold b0n
    rw [u5 _ k hk,p9 hk]
    simp only [cond_true,Option.bind_some,a9A (h1.2 _ (List.getElem_mem hk)),o9 hn]) (by
    unfold b0n
    rw [A5]; rfl)]
  simp only [Option.bind_some,b7.go]
  unfold b78
  rw [a52 (body:=fun s:(List a8)×Int=>b0E w s.1 s.2) w.Net (h2.fits (by decide)) (fun l=>l) (by
    intro k hk
    have hn:((w.Net.take k).length+1) * 152≤140737488355328:=Nat.le_trans (Nat.mul_le_mul_right 152 (show (w.Net.take k).length+1≤w.Net.length by rw [List.length_take]; omega)) (Nat.le_trans b2 (by decide))
    unfold b0E
    rw [u5 _ k hk,p9 hk]
    simp only [cond_true,Option.bind_some,b2L (h2.2 _ (List.getElem_mem hk)),o9 hn]) (by
    unfold b0E
    rw [A5]; rfl)]
  simp only [Option.bind_some,b7.go]
  unfold b8G
  rw [a52 (body:=fun s:(List j9)×Int=>b0e w s.1 s.2) w.Asked (h3.fits (by decide)) (fun l=>l) (by
    intro k hk
    unfold b0e
    have hp:=(h3.2 _ (List.getElem_mem hk)).2
    have hn:((w.Asked.take k).length+1) * 40≤140737488355328:=Nat.le_trans (Nat.mul_le_mul_right 40 (show (w.Asked.take k).length+1≤w.Asked.length by rw [List.length_take]; omega)) (Nat.le_trans b3 (by decide))
    rw [u5 _ k hk,p9 hk]
    simp only [cond_true,Option.bind_some,o9 (b02 hp),o9 hn,List.nil_append]) (by
    unfold b0e
    rw [A5]; rfl)]
  rfl
theorem c7g {l:List g8} (hl:n7 l) (he : ∀ e∈l,U5 e) : ∀ (d k:Nat) (w:f0),WI w→l.length - k=d→m5 (fun s:(List a6)×(List a8)×(List j9)×(List e9)×Int=>a3d l s.1 s.2.1 s.2.2.1 s.2.2.2.1 s.2.2.2.2) (w.Nodes,w.Net,w.Asked,w.Told,(k:Int))=some (.brk ((a6r w (l.drop k)).Nodes,(a6r w (l.drop k)).Net,(a6r w (l.drop k)).Asked,(a6r w (l.drop k)).Told))
  | 0,k,w,h,hd=>by
    rw [List.drop_eq_nil_of_le (by omega)]
    refine D6 ?_
    show a3d l w.Nodes w.Net w.Asked w.Told (k:Int)=_
    unfold a3d
    rw [show decide ((k:Int)<(l.length:Int))=false by simp; omega]
    rfl
  | d+1,k,w,h,hd=>by
    have hlt:k<l.length:=by omega
    obtain ⟨h1,h2⟩:=b2o h (he _ (List.getElem_mem hlt))
    have hb:a3d l w.Nodes w.Net w.Asked w.Told (k:Int)=some (.nxt ((F7 w l[k]).Nodes,(F7 w l[k]).Net,(F7 w l[k]).Asked,(F7 w l[k]).Told,((k+1:Nat):Int))):=by
      unfold a3d
      rw [u5 _ k hlt,p9 hlt,cond_true,Option.bind_some,show (⟨w.Nodes,w.Net,w.Asked,w.Told⟩:f0)=w from rfl,h1,Option.bind_some,H6 hl hlt]
    rw [M3 (body:=fun s:(List a6)×(List a8)×(List j9)×(List e9)×Int=>a3d l s.1 s.2.1 s.2.2.1 s.2.2.2.1 s.2.2.2.2) (s:=(w.Nodes,w.Net,w.Asked,w.Told,(k:Int))) hb,c7g hl he d (k+1) _ h2 (by omega),List.drop_eq_getElem_cons hlt]
    rfl
def noW:f0:=⟨[],[],[],[]⟩
theorem d6B {w:f0} (h:a6x w) {l:List g8} (hl:n7 l) (he : ∀ e∈l,U5 e):b2Q w l=some (bif L4 w&&decide (l.length≤400) then a6r w l else noW):=by
  unfold b2Q
  rw [c0L h,Option.bind_some,c7Z h,show decide ((l.length:Int)>400) = !decide (l.length≤400) from b0y l 400]
  cases hw:L4 w
  · rfl
  · cases decide (l.length≤400)
    · rfl
    · simp only [Bool.not_true,cond_false,Option.bind_some,Bool.and_self,cond_true]
      rw [show m5 (fun s:(List a6)×(List a8)×(List j9)×(List e9)×Int=>a3d l s.1 s.2.1 s.2.2.1 s.2.2.2.1 s.2.2.2.2) (w.Nodes,w.Net,w.Asked,w.Told,0)=_ from c7g hl he l.length 0 w (b1A.1 hw) rfl]
      rfl
theorem W4 {k a:Int} {p:List j6} (h:p.length≤10):U5 ⟨k,a,p⟩:=⟨by show p.length * 32≤_; omega,fun _ _=>trivial⟩
theorem d8R (n:Int) : ∃ v,b4B 1 n=some v:=by
  unfold b4B
  cases decide ((1:Int)>n)<;>exact ⟨_,rfl⟩
theorem d7V {r:c9} {m:Nat} (h:Rd r m) (hm:m≤1000000) (w:f0) : ∃ e r',b06 r w=some (e,r',w)∧Rd r' (m+210)∧U5 e:=by
  obtain ⟨v,hv⟩:=d8R (w.Net.length:Int)
  obtain ⟨a,r1,e1,h1,_⟩:=C8 h (by omega) v
  obtain ⟨b,r2,e2,h2,_⟩:=C8 h1 (by omega) 24
  have ask : ∃ e r',((A7 r2 3).bind fun p=>(a2Y p.2).bind fun q=>some (g8.mk 1 p.1 q.1,q.2,w))=some (e,r',w)∧Rd r' (m+210)∧U5 e:=by
    obtain ⟨c,r3,e3,h3,_⟩:=C8 h2 (by omega) 3
    obtain ⟨p,r4,e4,h4,hp⟩:=b3m h3 (by omega)
    rw [e3,Option.bind_some,e4,Option.bind_some]
    exact ⟨_,_,rfl,h4.mono (by omega),W4 hp⟩
  obtain ⟨c3,r3,e3,h3,_⟩:=C8 h2 (by omega) 3
  obtain ⟨c4,r4,e4,h4,_⟩:=C8 h2 (by omega) 2
  obtain ⟨c5,r5,e5,h5,_⟩:=C8 h4 (by omega) 3
  obtain ⟨c6,r6,e6,h6,_⟩:=C8 h3 (by omega) 10
  obtain ⟨c7,r7,e7,h7,_⟩:=C8 h6 (by omega) 5
  obtain ⟨p,r8,e8,h8,hp⟩:=b3m h3 (by omega)
  have z : ∀ (k x:Int) (r:c9) (j:Nat),Rd r j→j≤m+210 → ∃ e r',(some (g8.mk k x [],r,w):Option (g8×c9×f0))=some (e,r',w)∧Rd r' (m+210)∧U5 e:=fun k x r j hr hj=>⟨_,_,rfl,hr.mono hj,W4 (by simp)⟩
  unfold b06
  rw [hv,Option.bind_some,e1,Option.bind_some,e2,Option.bind_some]
  simp only [e3,e4,e5,e6,e7,e8,Option.bind_some]
  cases b==0
  · cases b==1
    · cases b==2
      · cases b==3
        · cases b==4
          · cases b==5
            · cases b==6
              · cases b==7
                · cases b==8
                  · cases b==9
                    · cases b==10
                      · exact z _ _ _ _ h2 (by omega)
                      · cases c3==0
                        · exact z _ _ _ _ h3 (by omega)
                        · exact z _ _ _ _ h7 (by omega)
                    · exact z _ _ _ _ h2 (by omega)
                  · exact z _ _ _ _ h2 (by omega)
                · cases c4==0
                  · exact z _ _ _ _ h4 (by omega)
                  · exact z _ _ _ _ h5 (by omega)
              · exact z _ _ _ _ h3 (by omega)
            · exact z _ _ _ _ h3 (by omega)
          · exact z _ _ _ _ h3 (by omega)
        · exact ⟨_,_,rfl,h8.mono (by omega),W4 hp⟩
      · exact ⟨_,_,rfl,h8.mono (by omega),W4 hp⟩
    · exact ⟨_,_,rfl,h8.mono (by omega),W4 hp⟩
  · exact ⟨_,_,rfl,h8.mono (by omega),W4 hp⟩
structure R8 (w:f0) (out:List g8) (b:Nat):Prop where
  w:WI w
  e : ∀ x∈out,U5 x
  l:out.length≤b
theorem c27 {out:List g8} {e:g8} (h : ∀ x∈out,U5 x) (he:U5 e) : ∀ x∈out++[e],U5 x:=by
  intro x hx
  rcases List.mem_append.1 hx with q | q
  · exact h x q
  · rw [List.mem_singleton.1 q]; exact he
theorem a1N {w:f0} {out:List g8} {b:Nat} (h:R8 w out b) (hb:b≤1000) {e:g8} (he:U5 e):a04 w out e=some (F7 w e,out++[e])∧R8 (F7 w e) (out++[e]) (b+1):=by
  obtain ⟨h1,h2⟩:=b2o h.w he
  have hl:=h.l
  unfold a04
  rw [h1,Option.bind_some,o9 (by omega)]
  exact ⟨rfl,h2,c27 h.e he,by simp; omega⟩
theorem d6q {r:c9} {m:Nat} (h:Rd r m) (hm:m≤1000) {w:f0} (hw:WI w) {n:Nat} (hn:n≤90) : ∃ l r',b3Z r w (n:Int)=some (l,r')∧(∀ e∈l,U5 e)∧l.length≤90:=by
  have hloop:=a7B (body:=fun s:c9×(List g8)×(List e9)×(List j9)×(List a8)×(List a6)×Int=>b19 (n:Int) s.1 s.2.1 s.2.2.1 s.2.2.2.1 s.2.2.2.2.1 s.2.2.2.2.2.1 s.2.2.2.2.2.2)
    (fun k s=>k≤n∧s.2.2.2.2.2.2=((n - k:Nat):Int)∧WI ⟨s.2.2.2.2.2.1,s.2.2.2.2.1,s.2.2.2.1,s.2.2.1⟩∧(∀ e∈s.2.1,U5 e)∧s.2.1.length=n - k∧Rd s.1 (m+210 * (n - k)))
    (fun x => ∃ (r':c9) (l:List g8),x = .brk (r',l)∧(∀ e∈l,U5 e)∧l.length≤90) (by
      rintro k ⟨r1,out,z7,asked,net,nodes,i⟩ ⟨hk,hi,hw,he,hl,hr⟩
      simp only at hi hw he hl hr
      unfold b19
      rw [hi]
      cases k with
      | zero =>
        rw [show decide (((n - 0:Nat):Int)<(n:Int))=false by simp]
        exact ⟨_,rfl,_,_,rfl,he,by simp only; omega⟩
      | succ k =>
        rw [show decide (((n - (k+1):Nat):Int)<(n:Int))=true by simp; omega]
        obtain ⟨e,r2,ee,hr2,hee⟩:=d7V hr (by omega) ⟨nodes,net,asked,z7⟩
        obtain ⟨d1,d2⟩:=b2o hw hee
        simp only [cond_true,ee,Option.bind_some]
        rw [o9 trivial,o9 trivial,o9 trivial,o9 trivial,o9 (by omega),c0L hw.ok,b1A.2 hw,c7Z hw.ok]
        simp only [Option.bind_some,cond_true,d1,b7.go,b8l]
        refine ⟨_,rfl,k,by omega,by omega,?_,d2,c27 he hee,by simp; omega,hr2.mono (by omega)⟩
        rw [B0 (by omega) (by omega)]
        simp only; omega) (k:=n) (s:=(r,[],w.Told,w.Asked,w.Net,w.Nodes,0)) ⟨Nat.le_refl _,by simp,hw,by simp,by simp,by simpa using h⟩
  obtain ⟨x,hx,r',l,rfl,h1,h2⟩:=hloop
  unfold b3Z
  rw [hx]
  exact ⟨l,r',rfl,h1,h2⟩
theorem c9I {w:f0} (h:0<w.Net.length):F7 w ⟨3,0,[]⟩=a4i w 0:=by
  unfold F7 a9O
  simp only [show ((3:Int)==2)=false from rfl,show ((3:Int)==3)=true from rfl,show ((3:Int)==4)=false from rfl,Bool.or_false,Bool.false_or,cond_true,cond_false,show decide ((0:Int)≤0)=true from rfl,Int.toNat_zero]
  rw [List.getElem?_eq_getElem h]
theorem d1F (w:f0) (a:Int) (p:List j6):(F7 w ⟨5,a,p⟩).Net.length≤w.Net.length+3:=by
  unfold F7
  simp only [show ((5:Int)==2)=false from rfl,show ((5:Int)==3)=false from rfl,show ((5:Int)==4)=false from rfl,show ((5:Int)==1)=false from rfl,show ((5:Int)==5)=true from rfl,Bool.or_false,cond_true,cond_false]
  cases !j7 a 0 2
  · have:=c1d (Z0 w a)
    simp only [cond_false,a2i,a10,List.length_append,List.length_take]
    omega
  · simp
theorem c1D {b:Nat} : ∀ (d:Nat) (w:f0) (out:List g8),w.Net.length=d→R8 w out b→b+d≤1000 → ∃ w' out',m5 (fun s:(List g8)×(List a6)×(List a8)×(List j9)×List e9=>a4n s.1 s.2.1 s.2.2.1 s.2.2.2.1 s.2.2.2.2) (out,w.Nodes,w.Net,w.Asked,w.Told)=some (.brk (out',w'.Nodes,w'.Net,w'.Asked,w'.Told))∧w'.Net=[]∧R8 w' out' (b+d)
  | 0,w,out,hd,h,hb=>by
    refine ⟨w,out,D6 ?_,List.eq_nil_of_length_eq_zero hd,h⟩
    show a4n out w.Nodes w.Net w.Asked w.Told=_
    unfold a4n
    rw [show decide ((w.Net.length:Int)>0)=false from decide_eq_false (by omega)]
    rfl
  | d+1,w,out,hd,h,hb=>by
    obtain ⟨t1,t2⟩:=a1N h (by omega) (e:=⟨3,0,[]⟩) (W4 (by simp))
    have hs:a4n out w.Nodes w.Net w.Asked w.Told=some (.nxt (out++[⟨3,0,[]⟩],(F7 w ⟨3,0,[]⟩).Nodes,(F7 w ⟨3,0,[]⟩).Net,(F7 w ⟨3,0,[]⟩).Asked,(F7 w ⟨3,0,[]⟩).Told)):=by
      unfold a4n
      rw [show decide ((w.Net.length:Int)>0)=true from decide_eq_true (by omega),cond_true,show (⟨w.Nodes,w.Net,w.Asked,w.Told⟩:f0)=w from rfl,t1]
      rfl
    rw [M3 (body:=fun s:(List g8)×(List a6)×(List a8)×(List j9)×List e9=>a4n s.1 s.2.1 s.2.2.1 s.2.2.2.1 s.2.2.2.2) (s:=(out,w.Nodes,w.Net,w.Asked,w.Told)) hs]
    obtain ⟨w',out',e1,e2,e3⟩:=c1D (b:=b+1) d (F7 w ⟨3,0,[]⟩) _ (by rw [c9I (by omega)]; simp [a4i]; omega) t2 (by omega)
    exact ⟨w',out',e1,e2,⟨e3.w,e3.e,by have:=e3.l; omega⟩⟩
theorem c6C {p:Int×c9} {B:Nat} (hB:B≤900) : ∀ (i:Nat) (w:f0) (out:List g8) (b:Nat),R8 w out b→b+w.Net.length+4 * i≤B→i≤100 → ∃ w' out',m5 (fun s:(List e9)×(List j9)×(List a8)×(List a6)×(List g8)×Int=>a6N p s.1 s.2.1 s.2.2.1 s.2.2.2.1 s.2.2.2.2.1 s.2.2.2.2.2) (w.Told,w.Asked,w.Net,w.Nodes,out,(i:Int))=some (.brk (out',w'.Nodes,w'.Net,w'.Asked,w'.Told))∧R8 w' out' B
  | 0,w,out,b,h,hb,hi=>by
    refine ⟨w,out,D6 ?_,h.w,h.e,by have:=h.l; omega⟩
    rfl
  | i+1,w,out,b,h,hb,hi=>by
    obtain ⟨w1,out1,e1,e2,e3⟩:=c1D (b:=b) w.Net.length w out rfl h (by omega)
    obtain ⟨t1,t2⟩:=a1N e3 (by omega) (e:=⟨5,p.1,[]⟩) (W4 (by simp))
    have hs:a6N p w.Told w.Asked w.Net w.Nodes out ((i+1:Nat):Int)=some (.nxt ((F7 w1 ⟨5,p.1,[]⟩).Told,(F7 w1 ⟨5,p.1,[]⟩).Asked,(F7 w1 ⟨5,p.1,[]⟩).Net,(F7 w1 ⟨5,p.1,[]⟩).Nodes,out1++[⟨5,p.1,[]⟩],(i:Int))):=by
      unfold a6N
      rw [show decide (((i+1:Nat):Int)>0)=true from decide_eq_true (by omega),cond_true,e1]
      simp only [Option.bind_some,b7.go,b5p]
      rw [show (⟨w1.Nodes,w1.Net,w1.Asked,w1.Told⟩:f0)=w1 from rfl,t1,Option.bind_some,B0 (by omega) (by omega),show ((i+1:Nat):Int) - 1=(i:Int) by omega]
    rw [M3 (body:=fun s:(List e9)×(List j9)×(List a8)×(List a6)×(List g8)×Int=>a6N p s.1 s.2.1 s.2.2.1 s.2.2.2.1 s.2.2.2.2.1 s.2.2.2.2.2) (s:=(w.Told,w.Asked,w.Net,w.Nodes,out,((i+1:Nat):Int))) hs]
    have hn:=d1F w1 p.1 []
    rw [e2] at hn
    simp only [List.length_nil,Nat.zero_add] at hn
    exact c6C hB i _ _ _ t2 (by omega) (by omega)
theorem c9U {r:c9} {m:Nat} (h:Rd r m) (hm:m≤1000) {w:f0} {out:List g8} (hw:R8 w out 1) : ∃ w' out' r',b1u r w out=some (w',out',r')∧R8 w' out' 130∧Rd r' (m+3):=by
  obtain ⟨a,r1,e1,h1,_⟩:=C8 h (by omega) 3
  obtain ⟨v,r2,e2,h2,hv⟩:=a5R h1 (by omega) [3,8,20] (by simp) (by simp)
  obtain ⟨i,hi,hi20⟩ : ∃ i:Nat,v=(i:Int)∧i≤20:=by
    simp at hv
    rcases hv with rfl | rfl | rfl
    · exact ⟨3,rfl,by omega⟩
    · exact ⟨8,rfl,by omega⟩
    · exact ⟨20,rfl,by omega⟩
  have hml:=hw.w.ml
  obtain ⟨w',out',e3,e4⟩:=c6C (p:=(a,r1)) (B:=125) (by omega) i w out 1 hw (by omega) (by omega)
  have e4':R8 w' out' 125:=e4
  unfold b1u
  rw [e1,Option.bind_some,e2,Option.bind_some,hi,e3]
  simp only [Option.bind_some,b7.go,b5t]
  cases decide ((w'.Net.length:Int)>0)
  · simp only [cond_false,Option.bind_some,b7.go,b2I]
    obtain ⟨t1,t2⟩:=a1N e4' (by omega) (e:=⟨7,a,[]⟩) (W4 (by simp))
    rw [show (⟨w'.Nodes,w'.Net,w'.Asked,w'.Told⟩:f0)=w' from rfl,t1]
    exact ⟨_,_,_,rfl,⟨t2.w,t2.e,by have:=t2.l; simp only; omega⟩,h2.mono (by omega)⟩
  · obtain ⟨c,r3,e5,h5,_⟩:=C8 h2 (by omega) (w'.Net.length:Int)
    obtain ⟨t1,t2⟩:=a1N e4' (by omega) (e:=⟨2,c,[]⟩) (W4 (by simp))
    obtain ⟨u1,u2⟩:=a1N t2 (by omega) (e:=⟨7,a,[]⟩) (W4 (by simp))
    simp only [cond_true,e5,Option.bind_some]
    rw [show (⟨w'.Nodes,w'.Net,w'.Asked,w'.Told⟩:f0)=w' from rfl,t1]
    simp only [Option.bind_some,b7.go,b2I]
    rw [show (⟨(F7 w' ⟨2,c,[]⟩).Nodes,(F7 w' ⟨2,c,[]⟩).Net,(F7 w' ⟨2,c,[]⟩).Asked,(F7 w' ⟨2,c,[]⟩).Told⟩:f0)=F7 w' ⟨2,c,[]⟩ from rfl,u1]
    exact ⟨_,_,_,rfl,⟨u2.w,u2.e,by have:=u2.l; simp only; omega⟩,h5.mono (by omega)⟩
theorem d4z {M:Nat} (hM:M≤100000) {r:c9} {w:f0} {out:List g8} (h:R8 w out 290) (hr:Rd r (M+10 * out.length)) : ∃ w' out' r',m5 (fun s:c9×(List a6)×(List a8)×(List j9)×(List e9)×List g8=>b0G s.1 s.2.1 s.2.2.1 s.2.2.2.1 s.2.2.2.2.1 s.2.2.2.2.2) (r,w.Nodes,w.Net,w.Asked,w.Told,out)=some (.brk (r',w'.Nodes,w'.Net,w'.Asked,w'.Told,out'))∧R8 w' out' (max out.length 201)∧Rd r' (M+10 * out'.length+2):=by
  have hloop:=a7B (body:=fun s:c9×(List a6)×(List a8)×(List j9)×(List e9)×List g8=>b0G s.1 s.2.1 s.2.2.1 s.2.2.2.1 s.2.2.2.2.1 s.2.2.2.2.2)
    (fun k s => ∃ w:f0,s.2=(w.Nodes,w.Net,w.Asked,w.Told,s.2.2.2.2.2)∧R8 w s.2.2.2.2.2 (max out.length 201)∧k=300 - s.2.2.2.2.2.length∧Rd s.1 (M+10 * s.2.2.2.2.2.length))
    (fun x => ∃ (w':f0) (out':List g8) (r':c9),x = .brk (r',w'.Nodes,w'.Net,w'.Asked,w'.Told,out')∧R8 w' out' (max out.length 201)∧Rd r' (M+10 * out'.length+2)) (by
      rintro k ⟨r1,s⟩ ⟨w1,hs,hf,hk,hr1⟩
      simp only at hs hf hk hr1
      obtain ⟨nodes,net,asked,z7,o⟩:=s
      simp only at hs hf hk hr1
      injection hs with e1 e2
      injection e2 with e2 e3
      injection e3 with e3 e4
      injection e4 with e4 e5
      subst e1; subst e2; subst e3; subst e4
      have hl:=hf.l
      have hol:=h.l
      unfold b0G
      cases decide ((w1.Net.length:Int)>0)
      · exact ⟨_,rfl,w1,o,r1,rfl,hf,hr1.mono (by omega)⟩
      · obtain ⟨a,r2,p1,p2,_⟩:=C8 hr1 (by omega) 9
        simp only [cond_true,p1,Option.bind_some]
        cases decide (a>0)
        · exact ⟨_,rfl,w1,o,r2,rfl,hf,p2.mono (by omega)⟩
        · simp only [cond_true]
          by_cases h200:o.length<200
          · rw [show decide ((o.length:Int)<200)=true from decide_eq_true (by omega)]
            obtain ⟨b,r3,q1,q2,_⟩:=C8 p2 (by omega) 8
            have go : ∀ (w2:f0) (o2:List g8) (r4:c9) (j:Nat),R8 w2 o2 (max out.length 201)→o2.length≤200→Rd r4 j→j≤M+10 * o2.length+4→o.length≤o2.length → ∃ st,b3D r4 w2.Nodes w2.Net w2.Asked w2.Told o2=some st∧match st with
                | .ret _=>False
                | .brk _=>False
                | .nxt t => ∃ k',k'<k ∧ ∃ w:f0,t.2=(w.Nodes,w.Net,w.Asked,w.Told,t.2.2.2.2.2)∧R8 w t.2.2.2.2.2 (max out.length 201)∧k'=300 - t.2.2.2.2.2.length∧Rd t.1 (M+10 * t.2.2.2.2.2.length):=by
              intro w2 o2 r4 j hf2 ho2 hr4 hj hle
              obtain ⟨c,r5,x1,x2,_⟩:=C8 hr4 (by omega) (w2.Net.length:Int)
              obtain ⟨d,r6,y1,y2,_⟩:=a5R x2 (by omega) [0,0,c] (by simp) (by simp)
              obtain ⟨t1,t2⟩:=a1N (b:=200) ⟨hf2.w,hf2.e,ho2⟩ (by omega) (e:=⟨2,d,[]⟩) (W4 (by simp))
              unfold b3D
              rw [x1,Option.bind_some,y1,Option.bind_some,show (⟨w2.Nodes,w2.Net,w2.Asked,w2.Told⟩:f0)=w2 from rfl,t1]
              refine ⟨_,rfl,300 - (o2++[(⟨2,d,[]⟩:g8)]).length,by simp; omega,F7 w2 ⟨2,d,[]⟩,rfl,⟨t2.w,t2.e,by simp; omega⟩,rfl,y2.mono (by simp; omega)⟩
            simp only [cond_true,q1,Option.bind_some]
            cases b==0
            · obtain ⟨st,g1,g2⟩:=go w1 o r3 _ hf (by omega) q2 (by omega) (Nat.le_refl _)
              refine ⟨st,g1,?_⟩
              cases st with
              | ret _=>exact g2.elim
              | brk _=>exact g2.elim
              | nxt t=>exact g2
            · obtain ⟨c,r4,x1,x2,_⟩:=C8 q2 (by omega) (w1.Net.length:Int)
              obtain ⟨t1,t2⟩:=a1N (b:=199) ⟨hf.w,hf.e,by omega⟩ (by omega) (e:=⟨4,c,[]⟩) (W4 (by simp))
              simp only [cond_true,x1,Option.bind_some]
              rw [show (⟨w1.Nodes,w1.Net,w1.Asked,w1.Told⟩:f0)=w1 from rfl,t1]
              simp only [Option.bind_some,b7.go]
              have hl2:(o++[(⟨4,c,[]⟩:g8)]).length=o.length+1:=by simp
              obtain ⟨st,g1,g2⟩:=go (F7 w1 ⟨4,c,[]⟩) (o++[⟨4,c,[]⟩]) r4 _ ⟨t2.w,t2.e,by omega⟩ (by omega) x2 (by omega) (by omega)
              refine ⟨st,g1,?_⟩
              cases st with
              | ret _=>exact g2.elim
              | brk _=>exact g2.elim
              | nxt t=>exact g2
          · rw [show decide ((o.length:Int)<200)=false from decide_eq_false (by omega)]
            exact ⟨_,rfl,w1,o,r2,rfl,hf,p2.mono (by omega)⟩) (k:=300 - out.length) (s:=(r,w.Nodes,w.Net,w.Asked,w.Told,out)) ⟨w,rfl,⟨h.w,h.e,by simp only; omega⟩,rfl,hr⟩
  obtain ⟨x,hx,w',out',r',rfl,h1,h2⟩:=hloop
  exact ⟨w',out',r',hx,h1,h2⟩
theorem c3h : ∀ (i:Nat) (r:c9) (w:f0) (out:List g8),i≤6→R8 w out (201+3 * (6 - i))→Rd r (10000 - 1000 * i+10 * out.length) → ∃ r' out',m5 (fun s:c9×(List a6)×(List a8)×(List j9)×(List e9)×(List g8)×Int=>a8c s.1 s.2.1 s.2.2.1 s.2.2.2.1 s.2.2.2.2.1 s.2.2.2.2.2.1 s.2.2.2.2.2.2) (r,w.Nodes,w.Net,w.Asked,w.Told,out,(i:Int))=some (.brk (r',out'))∧(∀ e∈out',U5 e)∧out'.length≤300
  | 0,r,w,out,hi,h,hr=>⟨r,out,D6 rfl,h.e,by have:=h.l; omega⟩
  | i+1,r,w,out,hi,h,hr=>by
    have hl:=h.l
    obtain ⟨a,r1,p1,p2,_⟩:=C8 hr (by omega) 3
    obtain ⟨pr,r2,q1,q2,q3⟩:=b3m p2 (by omega)
    obtain ⟨t1,t2⟩:=a1N h (by omega) (e:=⟨1,a,pr⟩) (W4 q3)
    have hlen:(out++[(⟨1,a,pr⟩:g8)]).length=out.length+1:=by simp
    obtain ⟨w3,o3,r3,x1,x2,x3⟩:=d4z (M:=10000 - 1000 * (i+1)+201) (by omega) (w:=F7 w ⟨1,a,pr⟩) (out:=out++[⟨1,a,pr⟩]) (r:=r2) ⟨t2.w,t2.e,by omega⟩ (q2.mono (by omega))
    have x2l:=x2.l
    obtain ⟨b,r4,y1,y2,_⟩:=C8 x3 (by omega) 4
    have fin : ∀ (w4:f0) (o4:List g8) (r5:c9) (j:Nat),R8 w4 o4 (201+3 * (6 - (i+1))+2)→Rd r5 j→j≤10000 - 1000 * (i+1)+300+10 * o4.length → ∃ w5 o5 r6,b1z ((i+1:Nat):Int) r5 w4.Nodes w4.Net w4.Asked w4.Told o4=some (.nxt (r6,w5.Nodes,w5.Net,w5.Asked,w5.Told,o5,(i:Int)))∧R8 w5 o5 (201+3 * (6 - i))∧Rd r6 (10000 - 1000 * i+10 * o5.length):=by
      intro w4 o4 r5 j hf hr5 hj
      have hfl:=hf.l
      obtain ⟨c,r6,z1,z2,_⟩:=C8 hr5 (by omega) 3
      obtain ⟨u1,u2⟩:=a1N hf (by omega) (e:=⟨6,c,[]⟩) (W4 (by simp))
      refine ⟨F7 w4 ⟨6,c,[]⟩,o4++[⟨6,c,[]⟩],r6,?_,⟨u2.w,u2.e,by have:=u2.l; omega⟩,z2.mono (by simp; omega)⟩
      unfold b1z
      rw [z1,Option.bind_some,show (⟨w4.Nodes,w4.Net,w4.Asked,w4.Told⟩:f0)=w4 from rfl,u1,Option.bind_some,B0 (by omega) (by omega),show ((i+1:Nat):Int) - 1=(i:Int) by omega]
    have hstep : ∃ w5 o5 r6,a8c r w.Nodes w.Net w.Asked w.Told out ((i+1:Nat):Int)=some (.nxt (r6,w5.Nodes,w5.Net,w5.Asked,w5.Told,o5,(i:Int)))∧R8 w5 o5 (201+3 * (6 - i))∧Rd r6 (10000 - 1000 * i+10 * o5.length):=by
      unfold a8c
      rw [show decide (((i+1:Nat):Int)>0)=true from decide_eq_true (by omega),cond_true,p1,Option.bind_some,q1,Option.bind_some,show (⟨w.Nodes,w.Net,w.Asked,w.Told⟩:f0)=w from rfl,t1,Option.bind_some,x1]
      simp only [Option.bind_some,b7.go]
      unfold b5F
      rw [y1,Option.bind_some]
      cases b==0
      · cases b==1
        · simp only [cond_false,Option.bind_some,b7.go]
          exact fin w3 o3 r4 _ ⟨x2.w,x2.e,by omega⟩ y2 (by omega)
        · obtain ⟨c,r5,z1,z2,_⟩:=C8 y2 (by omega) 3
          obtain ⟨u1,u2⟩:=a1N x2 (by omega) (e:=⟨5,c,[]⟩) (W4 (by simp))
          simp only [cond_false,cond_true,z1,Option.bind_some]
          rw [show (⟨w3.Nodes,w3.Net,w3.Asked,w3.Told⟩:f0)=w3 from rfl,u1]
          simp only [Option.bind_some,b7.go]
          exact fin (F7 w3 ⟨5,c,[]⟩) _ r5 _ ⟨u2.w,u2.e,by have:=u2.l; omega⟩ z2 (by simp; omega)
      · obtain ⟨c,r5,z1,z2,_⟩:=C8 y2 (by omega) 3
        obtain ⟨u1,u2⟩:=a1N x2 (by omega) (e:=⟨7,c,[]⟩) (W4 (by simp))
        simp only [cond_true,z1,Option.bind_some]
        rw [show (⟨w3.Nodes,w3.Net,w3.Asked,w3.Told⟩:f0)=w3 from rfl,u1]
        simp only [Option.bind_some,b7.go]
        exact fin (F7 w3 ⟨7,c,[]⟩) _ r5 _ ⟨u2.w,u2.e,by have:=u2.l; omega⟩ z2 (by simp; omega)
    obtain ⟨w5,o5,r6,s1,s2,s3⟩:=hstep
    rw [M3 (body:=fun s:c9×(List a6)×(List a8)×(List j9)×(List e9)×(List g8)×Int=>a8c s.1 s.2.1 s.2.2.1 s.2.2.2.1 s.2.2.2.2.1 s.2.2.2.2.2.1 s.2.2.2.2.2.2) (s:=(r,w.Nodes,w.Net,w.Asked,w.Told,out,((i+1:Nat):Int))) s1]
    exact c3h i r6 w5 o5 (by omega) s2 s3
theorem d4h {r:c9} {m:Nat} (h:Rd r m) (hm:m≤100) : ∃ l r',b29 r=some (l,r')∧(∀ e∈l,U5 e)∧l.length≤300:=by
  obtain ⟨a,r1,p1,p2,_⟩:=C8 h (by omega) 3
  obtain ⟨t1,t2⟩:=a1N (w:=a2t) (out:=[]) (b:=0) ⟨WI.open,by simp,by simp⟩ (by omega) (e:=⟨5,a,[]⟩) (W4 (by simp))
  obtain ⟨b,r2,q1,q2,_⟩:=C8 p2 (by omega) 3
  unfold b29
  rw [c8n,Option.bind_some,p1,Option.bind_some,t1,Option.bind_some,q1,Option.bind_some]
  have tail : ∀ (w:f0) (out:List g8) (r3:c9) (j:Nat),R8 w out 130→Rd r3 j→j≤200 → ∃ l r',b3V r3 w.Nodes w.Net w.Asked w.Told out=some (l,r')∧(∀ e∈l,U5 e)∧l.length≤300:=by
    intro w out r3 j hf hr3 hj
    obtain ⟨c,r4,x1,x2,x3,x4⟩:=C8 hr3 (by omega) 3
    obtain ⟨i,hi,hi6⟩ : ∃ i:Nat,i7 (3+c)=(i:Int)∧i≤6:=⟨(3+c).toNat,by rw [B0 (by omega) (by omega)]; omega,by omega⟩
    obtain ⟨r',out',e1,e2,e3⟩:=c3h i r4 w out hi6 ⟨hf.w,hf.e,by have:=hf.l; omega⟩ (x2.mono (by omega))
    unfold b3V
    rw [x1,Option.bind_some,hi,e1]
    exact ⟨out',r',rfl,e2,e3⟩
  have tf:R8 (F7 a2t ⟨5,a,[]⟩) ([]++[(⟨5,a,[]⟩:g8)]) 1:=t2
  cases decide (b>0)
  · obtain ⟨c,r3,x1,x2,_⟩:=C8 q2 (by omega) 5
    simp only [cond_false,x1,Option.bind_some]
    cases c==0
    · exact tail _ _ r3 _ ⟨tf.w,tf.e,by simp⟩ x2 (by omega)
    · obtain ⟨w',o',r',y1,y2,y3⟩:=c9U x2 (by omega) tf
      simp only [cond_true]
      rw [y1]
      exact tail w' o' r' _ y2 y3 (by omega)
  · obtain ⟨v,r3,x1,x2,x3⟩:=a5R q2 (by omega) [10,30,60,90] (by simp) (by simp)
    obtain ⟨n,hn,hn90⟩ : ∃ n:Nat,v=(n:Int)∧n≤90:=by
      simp at x3
      rcases x3 with rfl | rfl | rfl | rfl
      · exact ⟨10,rfl,by omega⟩
      · exact ⟨30,rfl,by omega⟩
      · exact ⟨60,rfl,by omega⟩
      · exact ⟨90,rfl,by omega⟩
    obtain ⟨l,r4,y1,y2,y3⟩:=d6q x2 (by omega) tf.w hn90
    simp only [cond_true,x1,Option.bind_some]
    rw [hn,y1,Option.bind_some,o9 (by simp; omega)]
    refine ⟨_,_,rfl,?_,by simp; omega⟩
    intro e he
    rcases List.mem_append.1 he with q | q
    · exact tf.e e q
    · exact y2 e q
def a25 (ds:List d9) (q:g9):Prop := ∃ d∈ds,d.Req.Who=q.Who∧q.Seq≤d.Req.Seq
theorem b2F {l:List d9} (h:a0j l) (d:d9):d∈V7 l d:=by
  rw [b0I d h]; simp
theorem d3r {l:List d9} (h:a0j l) {d x:d9} (hx:x∈l) (hw:x.Req.Who≠d.Req.Who):x∈V7 l d:=by
  rw [b0I d h]
  by_cases hlt:x.Req.Who<d.Req.Who
  · exact List.mem_append_left _ (List.mem_filter.2 ⟨hx,by simpa using hlt⟩)
  · exact List.mem_append_right _ (List.mem_cons_of_mem _ (List.mem_filter.2 ⟨hx,by simp; omega⟩))
theorem b6B {l:List d9} (h:a0j l) {d:d9} (hd : ∀ x∈l,x.Req.Who=d.Req.Who→x.Req.Seq≤d.Req.Seq) {q:g9} (hq:a25 l q):a25 (V7 l d) q:=by
  obtain ⟨x,hx,h1,h2⟩:=hq
  by_cases hw:x.Req.Who=d.Req.Who
  · exact ⟨d,b2F h d,by omega,by have:=hd x hx hw; omega⟩
  · exact ⟨x,d3r h hx hw,h1,h2⟩
theorem c37 {s:j4} {e:b5} (hs:a0j s.Dones) (hd : ∀ x∈s.Dones,x.Req.Who=e.Req.Who→x.Req.Seq≤e.Req.Seq):(∀ q,a25 s.Dones q→a25 (a0d s e).1.Dones q)∧a25 (a0d s e).1.Dones e.Req:=by
  unfold a0d
  cases a2A s.Boxes e.Run
  · exact ⟨fun q hq=>b6B hs hd hq,⟨_,b2F hs _,rfl,Int.le_refl _⟩⟩
  · cases e.Run.Code==0
    · exact ⟨fun q hq=>b6B hs hd hq,⟨_,b2F hs _,rfl,Int.le_refl _⟩⟩
    · exact ⟨fun q hq=>b6B hs hd hq,⟨_,b2F hs _,rfl,Int.le_refl _⟩⟩
theorem d7y {s:j4} {e:b5} (hs:a0j s.Dones):(∀ q,a25 s.Dones q→a25 (apply s e).1.Dones q)∧((apply s e).2=0 → ¬ a25 s.Dones e.Req∧a25 (apply s e).1.Dones e.Req):=by
  unfold apply
  cases hn:e.None
  case true=>exact ⟨fun q hq=>hq,fun h=>by cases h⟩
  simp only [cond_false]
  cases hf:s.Dones.find? (fun d=>d.Req.Who==e.Req.Who) with
  | none =>
    have hno : ∀ x∈s.Dones,x.Req.Who≠e.Req.Who:=fun x hx=>by simpa using List.find?_eq_none.1 hf x hx
    obtain ⟨h1,h2⟩:=c37 (e:=e) hs fun x hx hw=>absurd hw (hno x hx)
    exact ⟨h1,fun _=>⟨fun ⟨d,hd,hw,_⟩=>hno d hd hw,h2⟩⟩
  | some d =>
    have hw:d.Req.Who=e.Req.Who:=by simpa using List.find?_some hf
    have hm:=List.mem_of_find?_eq_some hf
    have hone : ∀ x∈s.Dones,x.Req.Who=e.Req.Who→x=d:=by
      intro x hx hxw
      obtain ⟨i,hi,rfl⟩:=List.getElem_of_mem hx
      obtain ⟨j,hj,rfl⟩:=List.getElem_of_mem hm
      have hp:=List.pairwise_iff_getElem.1 hs
      rcases Nat.lt_trichotomy i j with h | h | h
      · have:=hp i j hi hj h; omega
      · subst h; rfl
      · have:=hp j i hj hi h; omega
    simp only
    cases hq:d.Req.Seq==e.Req.Seq
    case true=>exact ⟨fun q hq=>hq,fun h=>by cases h⟩
    have hq':d.Req.Seq≠e.Req.Seq:=by simpa using hq
    simp only [cond_false]
    cases hg:decide (d.Req.Seq>e.Req.Seq)
    case true=>exact ⟨fun q hq=>hq,fun h=>by cases h⟩
    have hg' : ¬ d.Req.Seq>e.Req.Seq:=by simpa using hg
    simp only [cond_false]
    obtain ⟨h1,h2⟩:=c37 (e:=e) hs fun x hx hxw=>by rw [hone x hx hxw]; omega
    exact ⟨h1,fun _=>⟨fun ⟨y,hy,hyw,hyq⟩=>by rw [hone y hy hyw] at hyq; omega,h2⟩⟩
theorem c5D {l:List b5} (hl:l.length≤40) (he:l.all q9=true) : ∀ k,k≤l.length→(z7 l (l9 l).2 k).Pairwise (· ≠ ·) ∧ ∀ q∈z7 l (l9 l).2 k,a25 (l9 (l.take k)).1.Dones q
  | 0,_=>⟨.nil,fun q hq=>by cases hq⟩
  | k+1,hk=>by
    obtain ⟨h1,h2⟩:=c5D hl he k (by omega)
    obtain ⟨hi,_,_⟩:=X4 hl he k (by omega)
    have hk1:k<l.length:=by omega
    obtain ⟨_,hlen,_⟩:=X4 hl he l.length (Nat.le_refl _)
    rw [List.take_length] at hlen
    have hk2:k<(l9 l).2.length:=by omega
    have hco:=b45 hl he hk1
    rw [List.getElem?_eq_getElem hk2] at hco
    have hco:=Option.some.inj hco
    obtain ⟨a1,a2⟩:=d7y (s:=(l9 (l.take k)).1) (e:=l[k]) hi.sorted
    rw [a2H hk1]
    unfold z7
    rw [a96 hk1 hk2]
    cases hc:(l9 l).2[k]==0
    · rw [cond_false,List.append_nil]
      exact ⟨h1,fun q hq=>a1 q (h2 q hq)⟩
    · have hc':(l9 l).2[k]=0:=by simpa using hc
      obtain ⟨b1,b2⟩:=a2 (by rw [← hco]; exact hc')
      rw [cond_true]
      refine ⟨?_,fun q hq => ?_⟩
      · rw [List.pairwise_append]
        refine ⟨h1,by simp,fun x hx y hy => ?_⟩
        rw [List.mem_singleton] at hy
        intro hxy
        exact b1 (by rw [← hy,← hxy]; exact h2 x hx)
      · rcases List.mem_append.1 hq with hq | hq
        · exact a1 q (h2 q hq)
        · rw [List.mem_singleton] at hq
          rw [hq]
          exact b2
theorem c6S (l:List b5) (cs:List Int) (k:Nat) : ∀ m,∃ r,z7 l cs (k+m)=z7 l cs k++r
  | 0=>⟨[],by simp⟩
  | m+1=>by
    obtain ⟨r,hr⟩:=c6S l cs k m
    exact ⟨r++a5C l cs (k+m),by rw [show k+(m+1)=(k+m)+1 from rfl,z7,hr,List.append_assoc]⟩
theorem d2R (l:List b5) (m:List b5) : ∃ r,(l9 (l++m)).2=(l9 l).2++r:=by
  have key : ∀ (m:List b5) (st:j4×List Int),∃ r,(m.foldl a3t st).2=st.2++r:=by
    intro m
    induction m with
    | nil=>exact fun st=>⟨[],by simp⟩
    | cons x m ih =>
      intro st
      obtain ⟨r,hr⟩:=ih (a3t st x)
      exact ⟨(apply st.1 x).2::r,by rw [List.foldl_cons,hr]; simp [a3t]⟩
  unfold l9
  rw [List.foldl_append]
  exact key m _
theorem c4J {l m:List b5} {cs ds:List Int} (h:cs.length=l.length) : ∀ k,k≤l.length→z7 (l++m) (cs++ds) k=z7 l cs k
  | 0,_=>rfl
  | k+1,hk=>by
    unfold z7
    rw [c4J h k (by omega)]
    congr 1
    unfold a5C
    rw [List.getElem?_append_left (by omega),List.getElem?_append_left (by omega)]
theorem d9u {l:List b5} (h:H4 l=true) (k:Nat) : ∃ r,o6 l=o6 (l.take k)++r:=by
  obtain ⟨hl,he⟩:=a1K h
  have hl2:(l.take k).length≤40:=by rw [List.length_take]; omega
  have he2:(l.take k).all q9=true:=List.all_eq_true.2 fun x hx=>List.all_eq_true.1 he x (List.mem_of_mem_take hx)
  have h2:H4 (l.take k)=true:=by unfold H4; simp only [Bool.and_eq_true,decide_eq_true_eq]; exact ⟨hl2,he2⟩
  obtain ⟨_,hlen,_⟩:=X4 hl2 he2 _ (Nat.le_refl _)
  rw [List.take_length] at hlen
  obtain ⟨ds,hds⟩:=d2R (l.take k) (l.drop k)
  rw [List.take_append_drop] at hds
  have ht:=c4J (m:=l.drop k) (ds:=ds) hlen (l.take k).length (Nat.le_refl _)
  rw [List.take_append_drop,← hds] at ht
  unfold o6
  rw [h,h2,cond_true,cond_true,← ht]
  obtain ⟨r,hr⟩:=c6S l (l9 l).2 (l.take k).length (l.length - (l.take k).length)
  exact ⟨r,by rw [← hr]; congr 1; rw [List.length_take]; omega⟩
theorem d7s {d:List g9} (hd:n7 d) (hp:d.Pairwise (· ≠ ·)) {i:Nat} (hi:i<d.length):m5 (fun s:Int=>a72 d (i:Int) s) 0=some (.brk ()):=by
  have hloop:=V4 (body:=fun s:Int=>a72 d (i:Int) s) (fun k=>(k:Int)) i (by
    intro k hk
    have hk2:k<d.length:=by omega
    have hne:=List.pairwise_iff_getElem.1 hp k i hk2 hi hk
    unfold a72
    rw [decide_eq_true (show (k:Int)<(i:Int) by omega),p9 hk2,p9 hi,H6 hd hk2]
    have hq:(([d[k].Who,d[k].Seq]:List Int)==[d[i].Who,d[i].Seq])=false:=by
      rw [beq_eq_false_iff_ne]
      intro hh
      apply hne
      injection hh with a b
      injection b with b c
      cases hx:d[k] with | mk a1 a2=>cases hy:d[i] with | mk b1 b2 =>
        rw [hx,hy] at a b
        simp only at a b
        rw [a,b]
    simp only [cond_true,Option.bind_some,hq,cond_false])
  rw [show ((0:Nat):Int)=0 from rfl] at hloop
  rw [hloop,D6]
  unfold a72
  rw [decide_eq_false (show ¬ ((i:Int)<(i:Int)) by omega)]
  rfl
theorem d8f {l:List b5} (hl:n7 l) {d:List g9} {i:Nat} (hi:i<d.length) (hm : ∃ e∈l,M5 d[i] e=true):m5 (fun s:Bool×Int=>a7V l d (i:Int) s.1 s.2) (false,0)=some (.brk true):=by
  have hloop:=V4 (body:=fun s:Bool×Int=>a7V l d (i:Int) s.1 s.2) (fun k=>((l.take k).any (M5 d[i]),(k:Int))) l.length (by
    intro k hk
    simp only
    unfold a7V b6j
    rw [u5 _ k hk,p9 hk,H6 hl hk,p9 hi,List.take_succ_eq_append_getElem hk,List.any_append]
    cases (l.take k).any (M5 d[i])
    · cases hn:l[k].None
      · simp [M5,hn,b7.go]
      · simp [M5,hn,b7.go]
    · rfl)
  rw [List.take_zero,List.take_length,show ((0:Nat):Int)=0 from rfl,List.any_nil] at hloop
  rw [hloop,D6 (b:=true)]
  unfold a7V
  rw [A5]
  obtain ⟨e,h1,h2⟩:=hm
  rw [List.any_eq_true.2 ⟨e,h1,h2⟩]
  rfl
theorem d8j {l:List b5} (h:v5 88 X0 l) {d d0:List g9} (hd:n7 d) (hp:d.Pairwise (· ≠ ·)) (hm : ∀ q∈d,∃ e∈l,M5 q e=true) (h0:d=[] ∨ ∃ r,d=d0++r):(m5 (fun s:Int=>a6h l d d d0 s) 0).bind (fun x=>x.go (fun r=>some r) fun s=>b2z d d0)=some true:=by
  have hf:n7 l:=h.fits (by decide)
  have hloop:=V4 (body:=fun s:Int=>a6h l d d d0 s) (fun k=>(k:Int)) d.length (by
    intro k hk
    have hpos:decide ((d.length:Int)>0)=true:=by simp; omega
    have hj:b1O l d (k:Int)=some (.nxt ((k+1:Nat):Int)):=by
      unfold b1O b6d b6z
      simp only [d8f hf hk (hm _ (List.getElem_mem hk)),d7s hd hp hk,Option.bind_some,b7.go,Bool.not_true,cond_false,H6 hd hk]
    show a6h l d d d0 (k:Int)=some (.nxt ((k+1:Nat):Int))
    unfold a6h
    rw [u5 _ k hk,p9 hk,hpos,hj]
    simp only [cond_true,Option.bind_some,beq_self_eq_true,Bool.not_true,cond_false]
    cases hlt:decide ((k:Int)<(d0.length:Int))
    · rfl
    · have hk0:k<d0.length:=by simpa using hlt
      obtain ⟨r,hr⟩:=h0.resolve_left (by intro he; rw [he] at hk; cases hk)
      have he:d0[k]=d[k]:=by
        simp only [hr,List.getElem_append_left hk0]
      simp only [cond_true,p9 hk0,he,Option.bind_some,beq_self_eq_true,Bool.not_true,cond_false]
      rfl)
  rw [show ((0:Nat):Int)=0 from rfl] at hloop
  rw [hloop,D6 (b:=())]
  · unfold b2z
    simp only [Option.bind_some,b7.go]
    rcases h0 with rfl | ⟨r,rfl⟩
    · cases decide ((d0.length:Int)≤(([]:List g9).length:Int))<;>rfl
    · rw [decide_eq_true (by simp; omega)]
      rfl
  · unfold a6h
    rw [A5]; rfl
theorem d0G {H2:List Int} (h : ∀ x∈H2,a3c x) : ∃ l,b1I H2=some l∧v5 88 X0 l∧l.length≤1000000:=by
  obtain ⟨r,a1,a2⟩:=d6d h
  obtain ⟨p,r1,b1,b2,_⟩:=C8 a2 (by omega) 3
  unfold b1I
  simp only [a1,b1,Option.bind_some]
  cases p==0
  · obtain ⟨s,r2,c1,c3,c4⟩:=d4h b2 (by omega)
    have hw:=c4H WI.open (l:=s) c3
    obtain ⟨h0,hlo,hok⟩:=d0P hw.ok (b1A.2 hw)
    have hs:=d7f hw.ok h0
    obtain ⟨hl,_⟩:=a1K hok
    have hpl:=d6B WI.open.ok (l:=s) (by unfold n7; omega) c3
    rw [b1A.2 WI.open,decide_eq_true (by omega)] at hpl
    simp only [cond_false,c8n,c1,Option.bind_some,hpl,Bool.and_true,cond_true,hs]
    exact ⟨_,rfl,okEntries.f hlo,by omega⟩
  · obtain ⟨l,r2,c1,c2,c3⟩:=d03 b2 (by omega)
    simp only [cond_true,c1,Option.bind_some]
    exact ⟨_,rfl,c3.f,by have:=c3.1; omega⟩
theorem d2x {H2 W1:List Int} (h:v5 1 a3c H2) (h':v5 1 a3c W1):b5Y H2 W1=some true:=by
  unfold b5Y
  cases decide ((H2.length:Int)>1048576)
  case true=>rfl
  cases hmo:decide ((W1.length:Int)>1048576)
  case true=>rfl
  obtain ⟨l,a1,a2,a3⟩:=d0G h.2
  have hw:i7 ((l.length:Int)+1)=(l.length:Int)+1:=B0 (by omega) (by omega)
  have hk1:(0:Int)≤Int.tmod (W1.length:Int) ((l.length:Int)+1):=Int.tmod_nonneg _ (by omega)
  have hk2:Int.tmod (W1.length:Int) ((l.length:Int)+1)<(l.length:Int)+1:=Int.tmod_lt_of_pos _ (by omega)
  generalize hkk:(Int.tmod (W1.length:Int) ((l.length:Int)+1))=kk at hk1 hk2
  have ht:v5 88 X0 (l.take kk.toNat):=⟨by rw [List.length_take]; have:=a2.1; omega,fun x hx=>a2.2 x (List.mem_of_mem_take hx)⟩
  simp only [cond_false,a1,Option.bind_some,c2D a2,d3N a2,bne_self_eq_false,hw,hkk,List.drop_zero,Nat.sub_zero]
  rw [o9 (by omega),o9 ⟨hk1,by omega⟩,c2D ht,Option.bind_some]
  refine d8j a2 (d8S l) ?_ ?_ ?_
  · unfold o6
    cases hok:H4 l
    · exact .nil
    · obtain ⟨hl,he⟩:=a1K hok
      exact (c5D hl he _ (Nat.le_refl _)).1
  · intro q hq
    unfold o6 at hq
    cases hok:H4 l
    · rw [hok] at hq; cases hq
    · rw [hok,cond_true] at hq
      obtain ⟨hl,he⟩:=a1K hok
      exact c1F hl he _ (Nat.le_refl _) q hq
  · cases hok:H4 l
    · left; unfold o6; rw [hok]; rfl
    · exact .inr (d9u hok _)
end Go.Proofs.YtcnjppbopdpnjaaGreat
