/- Proofs that go through code step by step: what is told, and what is shown, is gathered on the way. -/
import Derived.Test.YthegkbaijmkhfaaAm32
set_option linter.unusedVariables false
set_option linter.unusedSimpArgs false
namespace Go.Proofs.Ythegkbaijmkhfaa
open Go

/-- On the way: so much is told (the last first), so much is shown. -/
structure Pt (cx : Cx) (X : Sig) (res : V) (outs : List (Option V)) (k : List Item) (S : St) (sc : Script) (ps : List Prop) : Prop where
  f : AllP ps → Fin cx X res outs k S

def revS {α : Type} : List α → List α → List α
  | [], b => b
  | a :: l, b => revS l (a :: b)
/-- A script, the right way round. -/
def scO : Script → Script → Script
  | [], b => b
  | r :: l, b => scO l (revS r [] :: b)
def psO : List Prop → List Prop → List Prop
  | [], b => b
  | p :: l, b => psO l (p :: b)
theorem allO {ps : List Prop} : ∀ {qs : List Prop}, AllP ps → AllP qs → AllP (psO ps qs) := by
  induction ps with
  | nil => exact fun _ h => h
  | cons p ps ih => exact fun h h' => ih h.2 ⟨h.1, h'⟩

/-- With the way taken. -/
def dt (t : Nat × Tell) (d : Bool) : Nat × Tell := (t.1, { t.2 with d := some d })

section
variable {cx : Cx} {X : Sig} {res : V} {outs : List (Option V)} {k : List Item} {S : St} {sc : Script} {ps : List Prop} {r : List (Nat × Tell)} {α β : Type} {v : β}

theorem P0 (h : Pt cx X res outs k S [] []) : Fin cx X res outs k S := h.f AllP.nil
theorem rg (h : Pt cx X res outs k S ([] :: sc) ps) : Pt cx X res outs k S sc ps := ⟨h.f⟩
theorem rg2 (h : Pt cx X res outs k S ([] :: [] :: sc) ps) : Pt cx X res outs k S sc ps := ⟨h.f⟩
theorem rg3 (h : Pt cx X res outs k S ([] :: [] :: [] :: sc) ps) : Pt cx X res outs k S sc ps := ⟨h.f⟩
theorem rg4 (h : Pt cx X res outs k S ([] :: [] :: [] :: [] :: sc) ps) : Pt cx X res outs k S sc ps := ⟨h.f⟩
theorem tl (t : Nat × Tell) (h : Pt cx X res outs k S ((t :: r) :: sc) ps) : Pt cx X res outs k S (r :: sc) ps := ⟨h.f⟩
theorem ob {p : Prop} (q : p) (h : Pt cx X res outs k S sc (p :: ps)) : Pt cx X res outs k S sc ps := ⟨fun a => h.f ⟨q, a⟩⟩
theorem om (p : Prop) (q : p) (h : Pt cx X res outs k S sc (p :: ps)) : Pt cx X res outs k S sc ps := ob q h
theorem cdT (t : Nat × Tell) {e : Bool} {a b : Option β} (h : cond e a b = some v) (k1 : e = true → a = some v → Pt cx X res outs k S ((dt t true :: r) :: sc) ((e = true) :: ps)) (k2 : e = false → b = some v → Pt cx X res outs k S ((dt t false :: r) :: sc) ((e = false) :: ps)) : Pt cx X res outs k S (r :: sc) ps := by
  cases e with
  | true => exact ob rfl (tl _ (k1 rfl h))
  | false => exact ob rfl (tl _ (k2 rfl h))
theorem cdD (i : Nat) {e : Bool} {a b : Option β} (h : cond e a b = some v) (k1 : a = some v → Pt cx X res outs k S ((td i true :: r) :: sc) ((e = true) :: ps)) (k2 : b = some v → Pt cx X res outs k S ((td i false :: r) :: sc) ((e = false) :: ps)) : Pt cx X res outs k S (r :: sc) ps := by
  cases e with
  | true => exact ob rfl (tl _ (k1 h))
  | false => exact ob rfl (tl _ (k2 h))
theorem cb (t : Nat → Bool → α → Nat × Tell) {m : Option α} {p : α → Prop} (ok : ∀ x, m = some x → p x) (i : Nat) (fr : Bool) {f : α → Option β} (h : m.bind f = some v) (g : ∀ x, f x = some v → Pt cx X res outs k S ((t i fr x :: r) :: sc) (p x :: ps)) : Pt cx X res outs k S (r :: sc) ps :=
  bindD h fun x hx h => ob (ok x hx) (tl _ (g x h))
theorem cbE (t : Nat → Bool → α → Nat × Tell) {m : Option α} {p : α → Prop} (ok : ∀ x, m = some x → p x) {f : α → Option β} (h : m.bind f = some v) (g : ∀ x, p x → f x = some v → Pt cx X res outs k S sc ps) : Pt cx X res outs k S sc ps :=
  bindD h fun x hx h => g x (ok x hx) h

section
variable {enc : α → List V} {l l' : List α} {I : Int} {x y z : α}
theorem ixS (enc : α → List V) (i : Nat) {f : α → Option β} (h : (idx l I).bind f = some v) (g : ∀ y, idx l I = some y → f y = some v → Pt cx X res outs k S ((tr i (enc y) :: r) :: sc) (((l.map enc)[I.toNat]? = some (enc y)) :: (I < ((l.length : Nat) : Int)) :: ((0 : Int) ≤ I) :: ps)) : Pt cx X res outs k S (r :: sc) ps :=
  bindD h fun y hy h => ob (idx0 hy) (ob (idx1 hy) (ob (map_idx hy) (tl _ (g y hy h))))
theorem ixR (enc : α → List V) (i : Nat) (hy : idx l I = some y) (g : Pt cx X res outs k S ((tr i (enc y) :: r) :: sc) (((l.map enc)[I.toNat]? = some (enc y)) :: (I < ((l.length : Nat) : Int)) :: ((0 : Int) ≤ I) :: ps)) : Pt cx X res outs k S (r :: sc) ps :=
  ob (idx0 hy) (ob (idx1 hy) (ob (map_idx hy) (tl _ g)))
theorem ixB (hy : idx l I = some y) (g : Pt cx X res outs k S sc ((I < ((l.length : Nat) : Int)) :: ((0 : Int) ≤ I) :: ps)) : Pt cx X res outs k S sc ps := ob (idx0 hy) (ob (idx1 hy) g)
theorem ldR (enc : α → List V) (i : Nat) (hy : idx l I = some y) (g : Pt cx X res outs k S ((tr i (enc y) :: r) :: sc) (((l.map enc)[0 + I.toNat]? = some (enc y)) :: ps)) : Pt cx X res outs k S (r :: sc) ps :=
  ob (map_idx0 hy) (tl _ g)
theorem stR (e sz : Nat) (enc : α → List V) (i : Nat) (ck : List (Option Nat)) (y : α) (hz : idx l I = some z) (g : Pt cx X res outs k S (((i, { a := .rowck (enc z) ck, e := some (erow e sz enc (l.set I.toNat y)) }) :: r) :: sc) (((l.map enc)[0 + I.toNat]? = some (enc z)) :: (Ent.row e sz l.length ((l.map enc).set (0 + I.toNat) (enc y)) = erow e sz enc (l.set I.toNat y)) :: ps)) : Pt cx X res outs k S (r :: sc) ps :=
  ob (row_set rfl) (ob (map_idx0 hz) (tl _ g))
theorem mkS (i w t sz b : Nat) (enc : α → List V) (z : α) (T : TI) (a : Ans) {N : Int} (e1 : 0 ≤ N ∧ N * ((b : Nat) : Int) ≤ 140737488355328) (hb : 0 < b) (hl : T.zero.length = sz)
    (g : Pt cx X res outs k S (((i, { a := a, e := some (erow t sz enc (List.replicate N.toNat z)), v := some (.own w 0 sz 0 (List.replicate N.toNat z).length) }) :: r) :: sc)
      ((T.zero.length = sz) :: (N * ((b : Nat) : Int) ≤ 140737488355328 ∧ 0 < b) :: (N = N) :: ((0 : Int) ≤ N) :: (Ent.row t sz N.toNat (List.replicate N.toNat (enc z)) = erow t sz enc (List.replicate N.toNat z)) :: (V.own w 0 sz 0 N.toNat = .own w 0 sz 0 (List.replicate N.toNat z).length) :: ps)) : Pt cx X res outs k S (r :: sc) ps :=
  ob (by simp) (ob (row_rep rfl) (ob e1.1 (ob rfl (ob ⟨e1.2, hb⟩ (ob hl (tl _ g))))))
theorem apS (i w t sz b : Nat) (enc : α → List V) (l : List α) (x : α) (h : (l.length + 1) * b ≤ 140737488355328)
    (g : Pt cx X res outs k S (((i, { v := some (.own w 0 sz 0 (l ++ [x]).length), e := some (erow t sz enc (l ++ [x])) }) :: r) :: sc)
      (((l.length + 1) * b ≤ 140737488355328) :: (l.length = l.length) :: (Ent.row t sz (l.length + 1) (l.map enc ++ [enc x]) = erow t sz enc (l ++ [x])) :: (V.own w 0 sz 0 (l.length + 1) = .own w 0 sz 0 (l ++ [x]).length) :: ps)) : Pt cx X res outs k S (r :: sc) ps :=
  ob (by simp) (ob (row_app rfl) (ob rfl (ob h (tl _ g))))
theorem apL (i w t sz b : Nat) (enc : α → List V) (l l' : List α) (h : (l.length + l'.length) * b ≤ 140737488355328)
    (g : Pt cx X res outs k S (((i, { v := some (.own w 0 sz 0 (l ++ l').length), e := some (erow t sz enc (l ++ l')) }) :: r) :: sc)
      (((l.length + l'.length) * b ≤ 140737488355328) :: (l.length = l.length) :: (Ent.row t sz (l.length + l'.length) (l.map enc ++ l'.map enc) = erow t sz enc (l ++ l')) :: (V.own w 0 sz 0 (l.length + l'.length) = .own w 0 sz 0 (l ++ l').length) :: ps)) : Pt cx X res outs k S (r :: sc) ps :=
  ob (by simp) (ob (row_apps rfl rfl) (ob rfl (ob h (tl _ g))))
end

theorem sg (fs : List Fix) (keep : List Nat) (gs : List (Nat × Nat)) {k' : List Item} {S' : St} (h : Fin cx X res outs k' S') (hg : segM cx k S (scO sc []) fs keep gs = some (k', S', psO ps []) := by kernel_rfl) : Pt cx X res outs k S sc ps :=
  ⟨fun a => Fin.seg _ fs keep gs _ (allO a AllP.nil) h hg⟩
/-- Temporaries told in other words. -/
def reT : List (Nat × V) → St → St × List Prop
  | [], S => (S, [])
  | (i, v) :: l, S => match S.t[i]? with
    | some u => match reT l { S with t := S.t.set i v } with
      | (S', ps) => (S', (u = v) :: ps)
    | none => reT l S
theorem reT_eq : ∀ {l : List (Nat × V)} {S : St}, AllP (reT l S).2 → (reT l S).1 = S
  | [], _, _ => rfl
  | (i, v) :: l, S, h => by
    unfold reT at h ⊢
    split at h
    · rename_i u hu
      have h1 : u = v := h.1
      have h2 := reT_eq (l := l) h.2
      simp only
      rw [h2, ← h1, set_same hu]
    · exact reT_eq h
theorem AllP.split : ∀ {ps qs : List Prop}, AllP (ps ++ qs) → AllP ps ∧ AllP qs
  | [], _, h => ⟨trivial, h⟩
  | _ :: _, _, h => ⟨⟨h.1, (AllP.split h.2).1⟩, (AllP.split h.2).2⟩
def segT (cx : Cx) (k : List Item) (S : St) (sc : Script) (fs : List Fix) (keep : List Nat) (gs : List (Nat × Nat)) (ts : List (Nat × V)) : Option (List Item × St × List Prop) :=
  match segM cx k S sc fs keep gs with
  | some (k', S', ps) => some (k', (reT ts S').1, ps ++ (reT ts S').2)
  | none => none
theorem sgT (fs : List Fix) (keep : List Nat) (gs : List (Nat × Nat)) (ts : List (Nat × V)) {k' : List Item} {S' : St} (h : Fin cx X res outs k' S') (hg : segT cx k S (scO sc []) fs keep gs ts = some (k', S', psO ps []) := by kernel_rfl) : Pt cx X res outs k S sc ps := by
  refine ⟨fun a => ?_⟩
  unfold segT at hg
  split at hg <;> try (cases hg; done)
  rename_i k1 S1 ps1 h1
  injection hg with hg
  injection hg with e1 e2
  injection e2 with e2 e3
  have ha := allO a AllP.nil
  rw [← e3] at ha
  obtain ⟨a1, a2⟩ := AllP.split ha
  rw [← e2, ← e1, reT_eq a2] at h
  exact Fin.seg _ fs keep gs _ a1 h h1
theorem ren_flat {α : Type} {enc : α → List V} {gs : List (Nat × Nat)} (h : ∀ x, (enc x).map (renC gs) = enc x) : ∀ l : List α, ((l.map enc).flatten.map (renC gs)) = (l.map enc).flatten
  | [] => rfl
  | x :: l => by
    simp only [List.map_cons, List.flatten_cons, List.map_append, h, ren_flat h l]
theorem fn0 {res' : V} {outs' : List (Option V)} (hf : cx.P.funcs[X.f]? = some X.fn) (h : res = res' ∧ outs = outs') (hg : endM cx X k S (scO sc []) = some (res', outs', psO ps []) := by kernel_rfl) : Pt cx X res outs k S sc ps :=
  ⟨fun a => (Fin.fin hf _ _ (allO a AllP.nil) hg).is h.1 h.2⟩
theorem fe {T : Type} {R : T → V} {O : T → List (Option V)} {r v : T} (hf : cx.P.funcs[X.f]? = some X.fn) (h : some v = some r) (hg : endM cx X k S (scO sc []) = some (R v, O v, psO ps []) := by kernel_rfl) : Pt cx X (R r) (O r) k S sc ps := by
  injection h with h
  subst h
  exact fn0 hf ⟨rfl, rfl⟩ hg
/-- What a loop leaves to show where it is left. -/
def HB (cx : Cx) (X : Sig) (res : V) (outs : List (Option V)) {R B : Type} (x : Exc R B) (k : List Item) (S : B → St) : Prop := ∀ s : B, x = .brk s → Fin cx X res outs k (S s)
def HR (res : V) (outs : List (Option V)) {R B : Type} (x : Exc R B) (fR : R → V) (fO : R → List (Option V)) : Prop := ∀ v : R, x = .ret v → (res = fR v ∧ outs = fO v)
end

end Go.Proofs.Ythegkbaijmkhfaa
