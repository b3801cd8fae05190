/- The way in: a call's first state. -/
import Derived.Test.YthegkbaijmkhfaaAm29
set_option linter.unusedVariables false
set_option linter.unusedSimpArgs false
namespace Go.Proofs.Ythegkbaijmkhfaa
open Go

def isOut : V → Bool
  | .osl .. | .dsl .. | .optr .. => true
  | _ => false
/-- Each thing handed over to be written lies where it is said. -/
def pinsOk : Nat → List (Option (Nat × PM)) → List V → Bool
  | _, [], [] => true
  | j, none :: os, v :: vs => pinsOk (j + (thawA 0 j v).2.length) os vs
  | j, some (j', _) :: os, v :: vs => Nat.beq j' j && isOut v && pinsOk (j + (thawA 0 j v).2.length) os vs
  | _, _, _ => false
def botsN : Nat → List V
  | 0 => []
  | n + 1 => .bot :: botsN n
def startS (X : Sig) (args : List V) : St :=
  let x := thawAs 0 0 args
  { t := x.1 ++ botsN (X.fn.ntmps - args.length), h := [some x.2] }

section
variable {w : World} {F : Nat → Prop}

theorem thawA_run2 {v : V} {c : Value} {f : List Nat} (h : BA w F v c f) (j : Nat) : ∃ bs : List Value, bs.length = (thawA 0 j v).2.length ∧ Has w (thawA 0 j v).2 bs f ∧ (isOut v = true → bs.head? = some c) ∧
    ∀ (D : Nat → Prop) (ι : Nat → Nat → Value), D 0 → At ι 0 j bs → f.Nodup → RA w F D ι (thawA 0 j v).1 c ∧ Lie w F D ι (thawA 0 j v).2 bs := by
  by_cases ho : isOut v = true
  · cases h with
    | cell v c f h =>
      cases h with
      | fv v c h => cases h <;> cases ho
      | osl e sz n rows c h =>
        refine ⟨[c], rfl, .one fun k hk => mem_fpb.2 hk, fun _ => rfl, fun D ι hD hat _ => ⟨.cell _ _ (RC.whole hD (hat 0 c rfl) h), ?_⟩⟩
        intro k e' b he hb
        cases k with
        | zero =>
          simp [thawA, thawC] at he hb
          subst he; subst hb
          exact h
        | succ k => simp [thawA, thawC] at he
      | dsl e sz n rows c flat fs h1 h2 h3 h4 =>
        obtain ⟨bs, q1, q2, q3⟩ := thawC_run (grp := 0) (BC.dsl e sz n rows c flat fs h1 h2 h3 h4) j
        refine ⟨[c], rfl, .one fun k hk => (EB.deep_iff (D := fun _ => True) (ι := fun _ _ => .nilFunc) h1 h2.kl).1 hk, fun _ => rfl, fun D ι hD hat hnd => ⟨.cell _ _ (RC.wholeO hD (hat 0 c rfl) h1), ?_⟩⟩
        intro k e' b he hb
        cases k with
        | zero =>
          simp [thawA, thawC] at he hb
          subst he; subst hb
          exact ⟨flat, fs, h1, h2.kl, h3, h4, hnd, fun _ => NoRef.of_flat h2.noRef⟩
        | succ k => simp [thawA, thawC] at he
    | agg cs ds f h => cases ho
    | optr e cs g cur f hg h =>
      obtain ⟨bs, h1, h2, h3⟩ := thawCs_run (grp := 0) h (j + 1)
      refine ⟨.pointer (some ⟨g, 0, none⟩) :: bs, by simp [thawA, h1], ?_, fun _ => rfl, fun D ι hD hat hnd => ?_⟩
      · exact Has.cons (w := w) (e := .var e (thawCs 0 (j + 1) cs).1) (b := .pointer (some ⟨g, 0, none⟩)) (f1 := [g]) (fun k hk => by
          have hk : blk (.pointer (some ⟨g, 0, none⟩)) = some k := hk
          simp [blk] at hk
          simp [hk]) h2
      have hat' : At ι 0 (j + 1) bs := fun k b hb => by
        have := hat (k + 1) b (by simpa using hb)
        rw [← this]; congr 1; omega
      obtain ⟨x, y⟩ := h3 D ι hD hat' (List.nodup_cons.1 hnd).2
      refine ⟨.cell _ _ (.ptr 0 j 0 g hD (hat 0 _ rfl)), ?_⟩
      intro k e' b he hb
      cases k with
      | zero =>
        simp [thawA] at he hb
        subst he; subst hb
        exact ⟨g, cur, rfl, hg, x⟩
      | succ k => exact y k e' b (by simpa [thawA] using he) (by simpa using hb)
  · obtain ⟨bs, h1, h2, h3⟩ := thawA_run (grp := 0) h j
    exact ⟨bs, h1, h2, fun q => absurd q ho, h3⟩

theorem thawAs_run2 {vs : List V} {cs : List Value} {f : List Nat} (h : BS w F vs cs f) : ∀ j, ∃ bs : List Value, bs.length = (thawAs 0 j vs).2.length ∧ Has w (thawAs 0 j vs).2 bs f ∧
    (∀ (oms : List (Option (Nat × PM))) (pre : List Value), pre.length = j → pinsOk j oms vs = true → Pinned oms cs (pre ++ bs)) ∧
    ∀ (D : Nat → Prop) (ι : Nat → Nat → Value), D 0 → At ι 0 j bs → f.Nodup → All2 (RA w F D ι) (thawAs 0 j vs).1 cs ∧ Lie w F D ι (thawAs 0 j vs).2 bs := by
  induction h with
  | nil =>
    refine fun j => ⟨[], rfl, .nil, fun oms pre _ hp => ?_, fun D ι hD hat _ => ⟨.nil, fun k e b he => by simp [thawAs] at he⟩⟩
    cases oms with
    | nil => exact .nil _
    | cons o oms => cases o <;> simp [pinsOk] at hp
  | cons v c f vs cs fs h t ih =>
    intro j
    obtain ⟨b1, hl1, hf1, hh1, h1⟩ := thawA_run2 h j
    obtain ⟨b2, hl2, hf2, hp2, h2⟩ := ih (j + (thawA 0 j v).2.length)
    refine ⟨b1 ++ b2, by simp [thawAs, hl1, hl2], hf1.append hf2 hl1, ?_, fun D ι hD hat hnd => ?_⟩
    · intro oms pre hpre hp
      cases oms with
      | nil => simp [pinsOk] at hp
      | cons o oms =>
        have hnext : ∀ oms, pinsOk (j + (thawA 0 j v).2.length) oms vs = true → Pinned oms cs (pre ++ (b1 ++ b2)) := by
          intro oms hp
          have := hp2 oms (pre ++ b1) (by simp [hpre, hl1]) hp
          rwa [List.append_assoc] at this
        cases o with
        | none => exact .skip _ _ _ _ (hnext oms (by simpa [pinsOk] using hp))
        | some q =>
          obtain ⟨j', m⟩ := q
          simp only [pinsOk, Bool.and_eq_true] at hp
          obtain ⟨⟨e1, e2⟩, e3⟩ := hp
          have hj : j' = j := Nat.eq_of_beq_eq_true e1
          subst hj
          refine .pin _ _ _ _ _ _ ?_ (hnext oms e3)
          have := hh1 e2
          cases b1 with
          | nil => cases this
          | cons b b1 =>
            injection this with this
            subst this
            rw [List.getElem?_append_right (by omega)]
            simp [hpre]
    · rw [List.nodup_append] at hnd
      obtain ⟨x1, y1⟩ := h1 D ι hD hat.left hnd.1
      obtain ⟨x2, y2⟩ := h2 D ι hD (by rw [← hl1]; exact hat.right) hnd.2.1
      exact ⟨.cons x1 x2, y1.append y2 hl1.symm⟩

theorem botsN_rv {D : Nat → Prop} {ι : Nat → Nat → Value} : ∀ n, All2 (RV w F D ι) (botsN n) (List.replicate n undef)
  | 0 => .nil
  | n + 1 => .cons (.any _) (botsN_rv n)

theorem BS.len {vs : List V} {cs : List Value} {f : List Nat} (h : BS w F vs cs f) : vs.length = cs.length := by
  induction h with
  | nil => rfl
  | cons _ _ _ _ _ _ _ _ ih => simp [ih]
end

theorem ACalls.of {cx : Cx} {X : Sig} {args : List V} {res : V} {outs : List (Option V)} {c : Code} (hf : cx.P.funcs[X.f]? = some X.fn) (hb : X.fn.body = some c) (hn : (X.fn.name == "runtime.NumGoroutine") = false) (ho : pinsOk 0 X.oms args = true)
    (h : Fin cx X res outs [.code c] (startS X args)) : ACalls cx.P X.f args res outs := by
  refine ⟨⟨X.fn, hf, hn, by rw [hb]; rfl⟩, ?_⟩
  intro w F cargs fp hbs hfpn hfp hF
  obtain ⟨bs, hl, hbf, hpin, hlie⟩ := thawAs_run2 hbs 0
  have hpin' := hpin X.oms [] rfl ho
  rw [List.nil_append] at hpin'
  obtain ⟨hargs, hents⟩ := hlie (startS X args).D (listAt (fun _ _ => .nilFunc) 0 bs) ⟨_, rfl⟩ (fun k b hb => by rw [Nat.zero_add]; exact listAt_get hb) hfpn
  have hent : ∀ g j e, (startS X args).ent g j = some e → g = 0 ∧ (thawAs 0 0 args).2[j]? = some e := by
    intro g j e he
    unfold St.ent startS at he
    cases g with
    | zero => exact ⟨rfl, he⟩
    | succ g => simp at he
  have hget : ∀ j e, (thawAs 0 0 args).2[j]? = some e → ∃ b, bs[j]? = some b ∧ listAt (fun _ _ => .nilFunc) 0 bs 0 j = b := by
    intro j e he
    have hj : j < bs.length := by rw [hl]; exact (List.getElem?_eq_some_iff.1 he).1
    exact ⟨bs[j], List.getElem?_eq_getElem hj, listAt_get (List.getElem?_eq_getElem hj)⟩
  have hrel : Rel ⟨w, F, (· ∈ fp), bs⟩ F (listAt (fun _ _ => .nilFunc) 0 bs) (startS X args) { tmps := cargs.toArray ++ Array.replicate (X.fn.ntmps - cargs.toArray.size) undef, defers := [] } w :=
    { F0 := fun _ x => x, F1 := hF, F2 := fun _ x => .inl x, kept := .refl _ _
      tmps := by
        show All2 _ ((thawAs 0 0 args).1 ++ botsN (X.fn.ntmps - args.length)) _
        simp only [Array.toList_append, Array.toList_replicate, List.size_toArray]
        rw [hbs.len]
        exact (hargs.imp fun _ _ x => RV.one _ _ x).app (botsN_rv _)
      ents := fun g j e he => by
        obtain ⟨rfl, he⟩ := hent g j e he
        obtain ⟨b, hb, hv⟩ := hget j e he
        rw [hv]
        exact hents j e b he hb
      sep := fun g j e k he hl' hk => by
        obtain ⟨rfl, he⟩ := hent g j e he
        obtain ⟨b, hb, hv⟩ := hget j e he
        rw [hv] at hk
        have := hbf.mem he hb hk
        exact ⟨(hfp k this).1, .inl this⟩
      inj := fun g j e g' j' e' k he he' hl1 hl2 hk hk' => by
        obtain ⟨rfl, he⟩ := hent g j e he
        obtain ⟨rfl, he'⟩ := hent g' j' e' he'
        obtain ⟨b, hb, hv⟩ := hget j e he
        obtain ⟨b', hb', hv'⟩ := hget j' e' he'
        rw [hv] at hk
        rw [hv'] at hk'
        exact ⟨rfl, hbf.inj hfpn he hb hk he' hb' hk'⟩
      defers := rfl
      pins := fun j c hc => ⟨⟨_, rfl⟩, listAt_get hc⟩ }
  intro cs
  let b : Frame := { (default : Frame) with fn := X.f, kind := .normal }
  have henter : Frame.enter cx.P X.f cargs.toArray .normal =
      b.at { tmps := cargs.toArray ++ Array.replicate (X.fn.ntmps - cargs.toArray.size) undef, defers := [] } [.code c] := by
    simp [Frame.enter, Frame.at, hf, hb, b]
  obtain ⟨e, w', fr, h1, h2, h3, h4⟩ := h w F fp cargs bs hpin' hF F _ _ w b cs hrel rfl rfl
  rw [← henter] at h2
  exact ⟨e, w', fr, h1, h2, h3, h4⟩

end Go.Proofs.Ythegkbaijmkhfaa
