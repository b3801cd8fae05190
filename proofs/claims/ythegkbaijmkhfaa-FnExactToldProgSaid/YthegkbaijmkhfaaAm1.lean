/- Abstract values and states, and how they lie in the model's memory. No program in sight. -/
import Derived.WalkKit
import Derived.ProofKit
import Derived.Maps.AppendAt
import Derived.Laws.MakeOwn
import Derived.Orders
import Derived.KernelRfl
import Derived.Deep.Draws
set_option linter.unusedVariables false
set_option linter.unusedSimpArgs false
namespace Go.Proofs.Ythegkbaijmkhfaa
open Go

/-- Abstract values. `sl`: a slice that is never written again; `own`: a reference to a row of the call's own; `osl`, `optr`: what is handed over at a call's border; `dsl`: with all that lies in it. -/
inductive V where
  | bot
  | b (x : Bool)
  | i (k : IntKind) (n : Int)
  | s (x : ByteArray)
  | fn (f : FuncId)
  | nil
  | agg (cs : List V)
  | tup (cs : List V)
  | sl (sz n : Nat) (rows : List (List V))
  | osl (e sz n : Nat) (rows : List (List V))
  | dsl (e sz n : Nat) (rows : List (List V))
  | own (g j sz lo n : Nat)
  | ptr (g j off : Nat)
  | eptr (g j sz idx off : Nat)
  | fptr (cs : List V)
  | optr (e : Nat) (cs : List V)
  | mp (g j : Nat)

instance : Inhabited V := ⟨.bot⟩

/-- The cells of a value. -/
def V.cells : V → Option (List V)
  | .agg cs => some cs
  | .tup _ => none
  | .bot => none
  | v => some [v]

/-- What lies at a place in memory. -/
def Seg (w : World) (g o : Nat) (ds : List Value) : Prop := ∀ j u, ds[j]? = some u → w.cell? ⟨g, o + j, none⟩ = some u

theorem Seg.drop {w : World} {g o : Nat} {ds : List Value} (h : Seg w g o ds) (k : Nat) : Seg w g (o + k) (ds.drop k) := by
  intro j u hu
  rw [List.getElem?_drop] at hu
  have := h _ _ hu
  rwa [← Nat.add_assoc] at this

theorem Seg.take {w : World} {g o : Nat} {ds : List Value} (h : Seg w g o ds) (k : Nat) : Seg w g o (ds.take k) := by
  intro j u hu
  rw [List.getElem?_take] at hu
  split at hu
  · exact h _ _ hu
  · cases hu

mutual
/-- What never changes again: how it reads, in blocks of F alone. -/
inductive FV (w : World) (F : Nat → Prop) : V → Value → Prop
  | bot (c) (h : c.oneCell' = true) : FV w F .bot c
  | b (x) : FV w F (.b x) (.bool x)
  | i (k n) : FV w F (.i k n) (.int k n)
  | s (x) : FV w F (.s x) (.string x)
  | fn (f) : FV w F (.fn f) (.func (.func f) #[] #[])
  | nil : FV w F .nil (.slice none 0 0)
  | sl0 (sz a cap) : FV w F (.sl sz 0 []) (.slice a 0 cap)
  | sl (sz n rows g o cap ds) (hF : F g) (hr : FL w F rows.flatten ds) (hn : rows.length = n) (hs : ∀ r ∈ rows, r.length = sz) (hc : n ≤ cap) (hseg : Seg w g o ds) :
      FV w F (.sl sz n rows) (.slice (some ⟨g, o, none⟩) n cap)
inductive FL (w : World) (F : Nat → Prop) : List V → List Value → Prop
  | nil : FL w F [] []
  | cons (v c vs cs) (h : FV w F v c) (t : FL w F vs cs) : FL w F (v :: vs) (c :: cs)
end

/-- Two worlds hold the same in the blocks of F. -/
def Same (w w' : World) (F : Nat → Prop) : Prop := ∀ g o, F g → w'.cell? ⟨g, o, none⟩ = w.cell? ⟨g, o, none⟩

theorem Seg.same {w w' : World} {F : Nat → Prop} (h : Same w w' F) {g o : Nat} (hF : F g) {ds : List Value} (hs : Seg w g o ds) : Seg w' g o ds :=
  fun j u hu => (h g (o + j) hF).trans (hs j u hu)

mutual
theorem FV.mono {w w' : World} {F F' : Nat → Prop} (hs : Same w w' F) (hF : ∀ g, F g → F' g) : ∀ {v c}, FV w F v c → FV w' F' v c
  | _, _, .bot c h => .bot c h
  | _, _, .b x => .b x
  | _, _, .i k n => .i k n
  | _, _, .s x => .s x
  | _, _, .fn f => .fn f
  | _, _, .nil => .nil
  | _, _, .sl0 sz a cap => .sl0 sz a cap
  | _, _, .sl sz n rows g o cap ds h1 h2 h3 h4 h5 h6 => .sl sz n rows g o cap ds (hF g h1) (FL.mono hs hF h2) h3 h4 h5 (h6.same hs h1)
theorem FL.mono {w w' : World} {F F' : Nat → Prop} (hs : Same w w' F) (hF : ∀ g, F g → F' g) : ∀ {v c}, FL w F v c → FL w' F' v c
  | _, _, .nil => .nil
  | _, _, .cons v c vs cs h t => .cons v c vs cs (FV.mono hs hF h) (FL.mono hs hF t)
end

/-- The block in which a slice's or a pointer's target lies. -/
def blk : Value → Option Nat
  | .pointer (some a) => some a.block
  | .slice (some a) _ _ => some a.block
  | .map (some b) => some b
  | _ => none

/-- Cells in general: frozen, or references to what is the call's own. -/
inductive RC (w : World) (F : Nat → Prop) (D : Nat → Prop) (ι : Nat → Nat → Value) : V → Value → Prop
  | fv (v c) (h : FV w F v c) : RC w F D ι v c
  | own (g j sz lo n b nn cap) (hD : D g) (hι : ι g j = .slice b nn cap) (hlo : lo + n ≤ cap) (hb0 : b = none → cap = 0) (hb1 : ∀ ad, b = some ad → ad = ⟨ad.block, 0, none⟩) : RC w F D ι (.own g j sz lo n) (.slice (if cap = lo then b else b.map (·.add (lo * sz))) n (cap - lo))
  | own0 (g j sz lo b cap) (hD : D g) (hlo : 0 < lo) : RC w F D ι (.own g j sz lo 0) (.slice b 0 cap)
  | ptr (g j off blk) (hD : D g) (hι : ι g j = .pointer (some ⟨blk, 0, none⟩)) : RC w F D ι (.ptr g j off) (.pointer (some ⟨blk, off, none⟩))
  | eptr (g j sz idx off b) (hD : D g) (hι : blk (ι g j) = some b) : RC w F D ι (.eptr g j sz idx off) (.pointer (some ⟨b, idx * sz + off, none⟩))
  | fptr (cs g o ds) (hF : F g) (h : FL w F cs ds) (hs : Seg w g o ds) : RC w F D ι (.fptr cs) (.pointer (some ⟨g, o, none⟩))
  | mp (g j blk) (hD : D g) (hι : ι g j = .map (some blk)) : RC w F D ι (.mp g j) (.map (some blk))

theorem RC.mono {w w' : World} {F F' : Nat → Prop} {D D' : Nat → Prop} {ι ι' : Nat → Nat → Value} (hs : Same w w' F) (hF : ∀ g, F g → F' g) (hD : ∀ g, D g → D' g) (hι : ∀ g j, D g → ι' g j = ι g j) {v c} (h : RC w F D ι v c) : RC w' F' D' ι' v c := by
  cases h with
  | fv v c h => exact .fv _ _ (h.mono hs hF)
  | own g j sz lo n b nn cap hg h1 h2 h3 h4 => exact .own g j sz lo n b nn cap (hD _ hg) (by rw [hι _ _ hg]; exact h1) h2 h3 h4
  | own0 g j sz lo b cap hg h1 => exact .own0 g j sz lo b cap (hD _ hg) h1
  | ptr g j off blk hg h1 => exact .ptr g j off blk (hD _ hg) (by rw [hι _ _ hg]; exact h1)
  | eptr g j sz idx off b hg h1 => exact .eptr g j sz idx off b (hD _ hg) (by rw [hι _ _ hg]; exact h1)
  | fptr cs g o ds h1 h2 h3 => exact .fptr cs g o ds (hF _ h1) (h2.mono hs hF) (h3.same hs h1)
  | mp g j blk hg h1 => exact .mp g j blk (hD _ hg) (by rw [hι _ _ hg]; exact h1)

/-- Lists, place by place. -/
inductive All2 {α β : Type} (R : α → β → Prop) : List α → List β → Prop
  | nil : All2 R [] []
  | cons {a b as bs} (h : R a b) (t : All2 R as bs) : All2 R (a :: as) (b :: bs)

namespace All2
variable {α β : Type} {R R' : α → β → Prop}
theorem imp (h : ∀ a b, R a b → R' a b) : ∀ {as bs}, All2 R as bs → All2 R' as bs
  | _, _, .nil => .nil
  | _, _, .cons x t => .cons (h _ _ x) (t.imp h)
theorem length : ∀ {as bs}, All2 R as bs → as.length = bs.length
  | _, _, .nil => rfl
  | _, _, .cons _ t => by simp [t.length]
theorem get : ∀ {as bs}, All2 R as bs → ∀ {n : Nat} {a : α}, as[n]? = some a → ∃ b, bs[n]? = some b ∧ R a b
  | _, _, .nil, n, a, h => by simp at h
  | _, _, .cons (a := x) (b := y) hx t, 0, a, h => by simp at h; subst h; exact ⟨y, by simp, hx⟩
  | _, _, .cons _ t, n + 1, a, h => by simp at h; simpa using t.get h
theorem set : ∀ {as bs}, All2 R as bs → ∀ (n : Nat) {a : α} {b : β}, R a b → All2 R (as.set n a) (bs.set n b)
  | _, _, .nil, n, a, b, h => by simpa using .nil
  | _, _, .cons hx t, 0, a, b, h => .cons h t
  | _, _, .cons hx t, n + 1, a, b, h => .cons hx (t.set n h)
theorem append : ∀ {as bs cs ds}, All2 R as bs → All2 R cs ds → All2 R (as ++ cs) (bs ++ ds)
  | _, _, _, _, .nil, k => k
  | _, _, _, _, .cons hx t, k => .cons hx (t.append k)
theorem drop : ∀ {as bs}, All2 R as bs → ∀ n, All2 R (as.drop n) (bs.drop n)
  | _, _, h, 0 => h
  | _, _, .nil, n + 1 => .nil
  | _, _, .cons _ t, n + 1 => t.drop n
theorem take : ∀ {as bs}, All2 R as bs → ∀ n, All2 R (as.take n) (bs.take n)
  | _, _, h, 0 => .nil
  | _, _, .nil, n + 1 => .nil
  | _, _, .cons hx t, n + 1 => .cons hx (t.take n)
theorem split : ∀ {as bs cs}, All2 R (as ++ bs) cs → ∃ x y, cs = x ++ y ∧ All2 R as x ∧ All2 R bs y
  | [], bs, cs, h => ⟨[], cs, rfl, .nil, h⟩
  | a :: as, bs, _, .cons hx t => by
    obtain ⟨x, y, rfl, h1, h2⟩ := split (as := as) t
    exact ⟨_ :: x, y, rfl, .cons hx h1, h2⟩
theorem replicate {a : α} {b : β} (h : R a b) : ∀ n, All2 R (List.replicate n a) (List.replicate n b)
  | 0 => .nil
  | n + 1 => .cons h (replicate h n)
end All2

theorem FL.all2 {w : World} {F : Nat → Prop} : ∀ {vs cs}, FL w F vs cs → All2 (FV w F) vs cs
  | _, _, .nil => .nil
  | _, _, .cons _ _ _ _ h t => .cons h t.all2
theorem FL.of {w : World} {F : Nat → Prop} : ∀ {vs cs}, All2 (FV w F) vs cs → FL w F vs cs
  | _, _, .nil => .nil
  | _, _, .cons h t => .cons _ _ _ _ h (FL.of t)

/-- A value in general: a cell, a struct of cells, or several results. -/
inductive RA (w : World) (F : Nat → Prop) (D : Nat → Prop) (ι : Nat → Nat → Value) : V → Value → Prop
  | cell (v c) (h : RC w F D ι v c) : RA w F D ι v c
  | agg (cs ds) (h : All2 (RC w F D ι) cs ds) : RA w F D ι (.agg cs) (.agg ds.toArray)
inductive RV (w : World) (F : Nat → Prop) (D : Nat → Prop) (ι : Nat → Nat → Value) : V → Value → Prop
  | one (v c) (h : RA w F D ι v c) : RV w F D ι v c
  | tup (cs ds) (h : All2 (RA w F D ι) cs ds) : RV w F D ι (.tup cs) (.tuple ds.toArray)
  | any (c) : RV w F D ι .bot c

theorem RA.mono {w w' : World} {F F' : Nat → Prop} {D D' : Nat → Prop} {ι ι' : Nat → Nat → Value} (hs : Same w w' F) (hF : ∀ g, F g → F' g) (hD : ∀ g, D g → D' g) (hι : ∀ g j, D g → ι' g j = ι g j) {v c} (h : RA w F D ι v c) : RA w' F' D' ι' v c := by
  cases h with
  | cell v c h => exact .cell _ _ (h.mono hs hF hD hι)
  | agg cs ds h => exact .agg _ _ (h.imp fun _ _ h => h.mono hs hF hD hι)
theorem RV.mono {w w' : World} {F F' : Nat → Prop} {D D' : Nat → Prop} {ι ι' : Nat → Nat → Value} (hs : Same w w' F) (hF : ∀ g, F g → F' g) (hD : ∀ g, D g → D' g) (hι : ∀ g j, D g → ι' g j = ι g j) {v c} (h : RV w F D ι v c) : RV w' F' D' ι' v c := by
  cases h with
  | one v c h => exact .one _ _ (h.mono hs hF hD hι)
  | tup cs ds h => exact .tup _ _ (h.imp fun _ _ h => h.mono hs hF hD hι)
  | any c => exact .any c

/-! ### What the call owns -/
/-- A row of the call's own: base slice value sv, its n elements of sz cells. -/
def OR (w : World) (F : Nat → Prop) (e sz : Nat) (sv : Value) (n : Nat) (rows : List (List V)) : Prop :=
  ∃ flat, w.ownsRow 0 e sz sv n flat ∧ FL w F rows.flatten flat ∧ rows.length = n ∧ ∀ r ∈ rows, r.length = sz

def fpb (c : Value) : List Nat := match blk c with | some k => [k] | none => []

mutual
/-- A cell at the border, and the blocks that it owns. -/
inductive BC (w : World) (F : Nat → Prop) : V → Value → List Nat → Prop
  | fv (v c) (h : FV w F v c) : BC w F v c []
  | osl (e sz n rows c) (h : OR w F e sz c n rows) : BC w F (.osl e sz n rows) c (fpb c)
  | dsl (e sz n rows c flat fs) (ho : w.ownsRow 0 e sz c n flat) (hr : BL w F rows.flatten flat fs) (hn : rows.length = n) (hl : ∀ r ∈ rows, r.length = sz) : BC w F (.dsl e sz n rows) c (fpb c ++ fs)
inductive BL (w : World) (F : Nat → Prop) : List V → List Value → List Nat → Prop
  | nil : BL w F [] [] []
  | cons (v c f vs cs fs) (h : BC w F v c f) (t : BL w F vs cs fs) : BL w F (v :: vs) (c :: cs) (f ++ fs)
end
/-- A cell of a row that owns what lies in it: owned, or told elsewhere. -/
inductive KC (w : World) (F : Nat → Prop) (D : Nat → Prop) (ι : Nat → Nat → Value) : V → Value → List Nat → Prop
  | rc (v c) (h : RC w F D ι v c) : KC w F D ι v c []
  | bc (v c f) (h : BC w F v c f) : KC w F D ι v c f
inductive KL (w : World) (F : Nat → Prop) (D : Nat → Prop) (ι : Nat → Nat → Value) : List V → List Value → List Nat → Prop
  | nil : KL w F D ι [] [] []
  | cons (v c f vs cs fs) (h : KC w F D ι v c f) (t : KL w F D ι vs cs fs) : KL w F D ι (v :: vs) (c :: cs) (f ++ fs)

/-- A reference to something told elsewhere. -/
def V.isRef : V → Bool
  | .own .. | .ptr .. | .eptr .. | .fptr _ | .mp .. => true
  | _ => false
def NoRef (rows : List (List V)) : Prop := ∀ r ∈ rows, ∀ v ∈ r, v.isRef = false
/-- `deep`: a row that owns what lies in it; where it is open, some of that is told elsewhere. -/
inductive Ent where
  | dead
  | var (e : Nat) (cs : List V)
  | arr (e sz n : Nat) (rows : List (List V))
  | row (e sz n : Nat) (rows : List (List V))
  | frz (sz n : Nat) (rows : List (List V))
  | deep (o : Bool) (e sz n : Nat) (rows : List (List V))
  | map (t m : Nat) (es : List (List Int × V))

instance : Inhabited Ent := ⟨.dead⟩

def Ent.live : Ent → Bool
  | .var .. | .arr .. | .row .. | .deep .. | .map .. => true
  | _ => false

/-- The concrete value of an abstract constant. -/
def V.conc : V → Value
  | .b x => .bool x
  | .i k n => .int k n
  | .s x => .string x
  | .fn f => .func (.func f) #[] #[]
  | .nil => .slice none 0 0
  | _ => .nilFunc
def V.simple : V → Bool
  | .b _ | .i _ _ | .s _ | .fn _ | .nil => true
  | _ => false
/-- A key. -/
def kv (xs : List Int) : Value := .agg (xs.map (Value.int .i64)).toArray
/-- An entry lies at its place. -/
def RE (w : World) (F : Nat → Prop) (D : Nat → Prop) (ι : Nat → Nat → Value) : Ent → Value → Prop
  | .dead, _ => True
  | .var e cs, c => ∃ g cur, c = .pointer (some ⟨g, 0, none⟩) ∧ w.heap[g]? = some (.cells cur e (0, 0)) ∧ All2 (RC w F D ι) cs cur.toList
  | .arr e sz n rows, c => ∃ g cur, c = .pointer (some ⟨g, 0, none⟩) ∧ w.heap[g]? = some (.cells cur e (0, 0)) ∧ FL w F rows.flatten cur.toList ∧ rows.length = n ∧ ∀ r ∈ rows, r.length = sz
  | .row e sz n rows, c => OR w F e sz c n rows
  | .frz sz n rows, c => FV w F (.sl sz n rows) c
  | .deep o e sz n rows, c => ∃ flat fs, w.ownsRow 0 e sz c n flat ∧ KL w F D ι rows.flatten flat fs ∧ rows.length = n ∧ (∀ r ∈ rows, r.length = sz) ∧ (fpb c ++ fs).Nodup ∧ (o = false → NoRef rows)
  | .map t m es, c => ∃ g arr clock, c = .map (some g) ∧ w.heap[g]? = some (.map arr clock) ∧ arr.toList.map (fun e => (e.key, e.val)) = es.map (fun p => (kv p.1, p.2.conc)) ∧ ∀ p ∈ es, p.1.length = m ∧ p.2.simple = true
/-- The blocks of an entry. -/
def EB (w : World) : Ent → Value → Nat → Prop
  | .deep _ e sz n rows, c, k => blk c = some k ∨ ∃ (F D : Nat → Prop) (ι : Nat → Nat → Value) (flat : List Value) (fs : List Nat), w.ownsRow 0 e sz c n flat ∧ KL w F D ι rows.flatten flat fs ∧ k ∈ fs
  | _, c, k => blk c = some k

structure St where
  t : List V
  h : List (Option (List Ent))

def St.ent (S : St) (g j : Nat) : Option Ent :=
  match S.h[g]? with
  | some (some l) => l[j]?
  | _ => none

/-- The groups that are laid. -/
def St.D (S : St) (g : Nat) : Prop := ∃ l, S.h[g]? = some (some l)

theorem St.D_of_ent {S : St} {g j : Nat} {e : Ent} (h : S.ent g j = some e) : S.D g := by
  unfold St.ent at h
  split at h
  · exact ⟨_, by assumption⟩
  · cases h

/-- What a call starts from: its first world, what may be read, what was handed over. -/
structure Ctx where
  w0 : World
  F0 : Nat → Prop
  own : Nat → Prop
  pins : List Value := []

/-- Old blocks that were not handed over are as they were. -/
structure Kept (own : Nat → Prop) (w w' : World) : Prop where
  os : w'.os = w.os
  tape : w'.tape = w.tape
  output : w'.output = w.output
  size : w.heap.size ≤ w'.heap.size
  block : ∀ k, k < w.heap.size → ¬ own k → w'.heap[k]? = w.heap[k]?

theorem Kept.refl (own : Nat → Prop) (w : World) : Kept own w w := ⟨rfl, rfl, rfl, Nat.le_refl _, fun _ _ _ => rfl⟩
theorem Kept.trans {own own' : Nat → Prop} {w w1 w2 : World} (h : Kept own w w1) (k : Kept own' w1 w2) (ho : ∀ g, own' g → g < w.heap.size → own g) : Kept own w w2 :=
  ⟨k.os.trans h.os, k.tape.trans h.tape, k.output.trans h.output, Nat.le_trans h.size k.size,
   fun i hi hn => (k.block i (Nat.lt_of_lt_of_le hi h.size) (fun q => hn (ho i q hi))).trans (h.block i hi hn)⟩
theorem Kept.alloc (own : Nat → Prop) (w : World) (o : Obj) : Kept own w (w.alloc o) :=
  ⟨rfl, rfl, rfl, by simp, fun k hk _ => heap_alloc_old w o hk⟩
theorem Kept.drewN (own : Nat → Prop) (w : World) (n : Nat) : Kept own w (w.drewN n) := ⟨rfl, rfl, rfl, Nat.le_refl _, fun _ _ _ => rfl⟩

/-- The state is as it is told. -/
structure Rel (Γ : Ctx) (F : Nat → Prop) (ι : Nat → Nat → Value) (S : St) (a : Act) (w : World) : Prop where
  F0 : ∀ g, Γ.F0 g → F g
  F1 : ∀ g, F g → g < w.heap.size
  F2 : ∀ g, F g → Γ.F0 g ∨ Γ.own g ∨ Γ.w0.heap.size ≤ g
  kept : Kept Γ.own Γ.w0 w
  tmps : All2 (RV w F S.D ι) S.t a.tmps.toList
  ents : ∀ g j e, S.ent g j = some e → RE w F S.D ι e (ι g j)
  sep : ∀ g j e k, S.ent g j = some e → e.live = true → EB w e (ι g j) k → ¬ F k ∧ (Γ.own k ∨ Γ.w0.heap.size ≤ k)
  inj : ∀ g j e g' j' e' k, S.ent g j = some e → S.ent g' j' = some e' → e.live = true → e'.live = true → EB w e (ι g j) k → EB w e' (ι g' j') k → g = g' ∧ j = j'
  defers : a.defers = []
  pins : ∀ (j : Nat) (c : Value), Γ.pins[j]? = some c → S.D 0 ∧ ι 0 j = c

end Go.Proofs.Ythegkbaijmkhfaa
