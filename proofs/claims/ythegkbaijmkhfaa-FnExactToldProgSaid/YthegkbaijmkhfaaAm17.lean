/- What a call is handed. -/
import Derived.Test.YthegkbaijmkhfaaAm16
set_option linter.unusedVariables false
set_option linter.unusedSimpArgs false
namespace Go.Proofs.Ythegkbaijmkhfaa
open Go

/-- What is handed over: the value at the border, the entries given up for it, the rows that are looked at, what must hold. -/
structure AR (α : Type) where
  v : α
  ks : List (Nat × Nat) := []
  ls : List (Nat × Nat) := []
  obl : List Prop := []

theorem NoRef.map {α : Type} {enc : α → List V} (h : ∀ x, ∀ v ∈ enc x, v.isRef = false) (l : List α) : NoRef (l.map enc) := by
  intro r hr
  obtain ⟨x, _, rfl⟩ := List.mem_map.1 hr
  exact h x
theorem KC.bcOf {w : World} {F D : Nat → Prop} {ι : Nat → Nat → Value} {v : V} {c : Value} {f : List Nat} (h : KC w F D ι v c f) (hv : v.isRef = false) : BC w F v c f := by
  cases h with
  | rc h =>
    cases h with
    | fv v c h => exact .fv _ _ h
    | _ => cases hv
  | bc _ h => exact h
theorem KL.blOf {w : World} {F D : Nat → Prop} {ι : Nat → Nat → Value} : ∀ {vs cs f}, KL w F D ι vs cs f → (∀ v ∈ vs, v.isRef = false) → BL w F vs cs f
  | _, _, _, .nil, _ => .nil
  | _, _, _, .cons v c f vs cs fs h t, hv => .cons v c f vs cs fs (h.bcOf (hv v (by simp))) (KL.blOf t fun x hx => hv x (by simp [hx]))
theorem NoRef.flat {rows : List (List V)} (h : NoRef rows) : ∀ v ∈ rows.flatten, v.isRef = false := by
  intro v hv
  obtain ⟨r, hr, hv⟩ := List.mem_flatten.1 hv
  exact h r hr v hv
/-- How a mode tells of a row that owns what lies in it. -/
def deepE : Nat := 1000000

mutual
/-- What is the call's own, looked at. -/
def viewC : V → V
  | .osl _ sz n rows => .sl sz n rows
  | .dsl _ sz n rows => .sl sz n (viewR rows)
  | v => v
def viewL : List V → List V
  | [] => []
  | v :: vs => viewC v :: viewL vs
def viewR : List (List V) → List (List V)
  | [] => []
  | r :: rs => viewL r :: viewR rs
end
theorem viewL_eq : ∀ vs : List V, viewL vs = vs.map viewC
  | [] => rfl
  | v :: vs => by rw [viewL, viewL_eq vs]; rfl
theorem viewR_eq : ∀ rs : List (List V), viewR rs = rs.map viewL
  | [] => rfl
  | r :: rs => by rw [viewR, viewR_eq rs]; rfl
theorem viewR_map {α : Type} {enc enc' : α → List V} (h : ∀ x, viewL (enc x) = enc' x) (l : List α) : viewR (l.map enc) = l.map enc' := by
  rw [viewR_eq, List.map_map]
  exact List.map_congr_left fun x _ => h x

def cellM (ck om : Option Nat) (v : V) : RdM (AR V) :=
  match om with
  | some e => match v with
    | .nil => RdM.pure { v := if e < deepE then .osl e (ck.getD 0) 0 [] else .dsl (e - deepE) (ck.getD 0) 0 [] }
    | .own g j sz 0 n => RdM.bind (RdM.rd g j) fun en => match en with
      | .row e' sz' n' rows => if e' = e ∧ sz' = sz then RdM.pure { v := .osl e sz n' rows, ks := [(g, j)], obl := [n = n'] } else RdM.no
      | .deep false e' sz' n' rows => if e' + deepE = e ∧ sz' = sz then RdM.pure { v := .dsl e' sz n' rows, ks := [(g, j)], obl := [n = n'] } else RdM.no
      | _ => RdM.no
    | _ => RdM.no
  | none => match v with
    | .own g j sz lo n => RdM.bind (RdM.rd g j) fun en => match en with
      | .row _ sz' n' rows => if sz = sz' then RdM.pure { v := .sl sz (partR lo n n' rows).1 (partR lo n n' rows).2.1, ls := [(g, j)], obl := (partR lo n n' rows).2.2 } else RdM.no
      | .frz sz' n' rows => if sz = sz' then RdM.pure { v := .sl sz (partR lo n n' rows).1 (partR lo n n' rows).2.1, obl := (partR lo n n' rows).2.2 } else RdM.no
      | .deep false _ sz' n' rows => if sz = sz' then RdM.pure { v := .sl sz (partR lo n n' (viewR rows)).1 (partR lo n n' (viewR rows)).2.1, ls := [(g, j)], obl := (partR lo n n' (viewR rows)).2.2 } else RdM.no
      | _ => RdM.no
    | .nil => match ck with
      | some sz => RdM.pure { v := .sl sz 0 [] }
      | none => RdM.pure { v := .nil }
    | .sl sz n rows => RdM.pure { v := .sl sz n rows }
    | .b x => RdM.pure { v := .b x }
    | .i k n => RdM.pure { v := .i k n }
    | .s x => RdM.pure { v := .s x }
    | .fn f => RdM.pure { v := .fn f }
    | _ => RdM.no

def cellsM : List (Option Nat) → List (Option Nat) → List V → RdM (AR (List V))
  | _, _, [] => RdM.pure { v := [] }
  | ck, om, v :: vs => RdM.bind (cellM (ck.headD none) (om.headD none) v) fun x => RdM.bind (cellsM ck.tail om.tail vs) fun y =>
    RdM.pure { v := x.v :: y.v, ks := x.ks ++ y.ks, ls := x.ls ++ y.ls, obl := x.obl ++ y.obl }

def argM (m : PM) (v : V) : RdM (AR V) :=
  match m with
  | .val ck om => match v with
    | .agg cs => RdM.bind (cellsM ck om cs) fun x => RdM.pure { v := .agg x.v, ks := x.ks, ls := x.ls, obl := x.obl }
    | .tup _ => RdM.no
    | .bot => RdM.no
    | v => cellM (ck.headD none) (om.headD none) v
  | .ptr ck om => match v with
    | .ptr g j 0 => RdM.bind (RdM.rd g j) fun en => match en with
      | .var e cs => RdM.bind (cellsM ck om cs) fun x => RdM.pure { v := .optr e x.v, ks := (g, j) :: x.ks, ls := x.ls, obl := x.obl }
      | _ => RdM.no
    | _ => RdM.no
  | .row => match v with
    | .own g j sz 0 n => RdM.bind (RdM.rd g j) fun en => match en with
      | .row e sz' n' rows => if sz' = sz then RdM.pure { v := .osl e sz n' rows, ks := [(g, j)], obl := [n = n'] } else RdM.no
      | .deep false e sz' n' rows => if sz' = sz then RdM.pure { v := .dsl e sz n' rows, ks := [(g, j)], obl := [n = n'] } else RdM.no
      | _ => RdM.no
    | _ => RdM.no

def argsM : List PM → List V → RdM (AR (List V))
  | _, [] => RdM.pure { v := [] }
  | m :: ms, v :: vs => RdM.bind (argM m v) fun x => RdM.bind (argsM ms vs) fun y =>
    RdM.pure { v := x.v :: y.v, ks := x.ks ++ y.ks, ls := x.ls ++ y.ls, obl := x.obl ++ y.obl }
  | [], _ :: _ => RdM.no

/-- The blocks of what is handed over. -/
inductive Fps (S : St) (w : World) (ι : Nat → Nat → Value) : List (Nat × Nat) → List Nat → Prop
  | nil : Fps S w ι [] []
  | cons (id : Nat × Nat) (e : Ent) (f : List Nat) (ks : List (Nat × Nat)) (fs : List Nat) (he : S.ent id.1 id.2 = some e) (hl : e.live = true) (hf : ∀ k ∈ f, EB w e (ι id.1 id.2) k) (hn : f.Nodup) (t : Fps S w ι ks fs) : Fps S w ι (id :: ks) (f ++ fs)
theorem Fps.append {S : St} {w : World} {ι : Nat → Nat → Value} {k1 : List (Nat × Nat)} {f1 : List Nat} (h : Fps S w ι k1 f1) {k2 : List (Nat × Nat)} {f2 : List Nat} (h2 : Fps S w ι k2 f2) : Fps S w ι (k1 ++ k2) (f1 ++ f2) := by
  induction h with
  | nil => exact h2
  | cons id e f ks fs he hl hf hn t ih =>
    rw [List.append_assoc]
    exact .cons id e f _ _ he hl hf hn ih
theorem Fps.one {S : St} {w : World} {ι : Nat → Nat → Value} {g j : Nat} {e : Ent} {f : List Nat} (he : S.ent g j = some e) (hl : e.live = true) (hf : ∀ k ∈ f, EB w e (ι g j) k) (hn : f.Nodup) : Fps S w ι [(g, j)] f := by
  have := Fps.cons (S := S) (w := w) (ι := ι) (g, j) e f [] [] he hl hf hn .nil
  simpa using this
theorem Fps.mem {S : St} {w : World} {ι : Nat → Nat → Value} {ks : List (Nat × Nat)} {fs : List Nat} (h : Fps S w ι ks fs) {k : Nat} (hk : k ∈ fs) : ∃ id ∈ ks, ∃ e, S.ent id.1 id.2 = some e ∧ e.live = true ∧ EB w e (ι id.1 id.2) k := by
  induction h with
  | nil => cases hk
  | cons id e f ks fs he hl hf hn t ih =>
    rcases List.mem_append.1 hk with q | q
    · exact ⟨id, by simp, e, he, hl, hf k q⟩
    · obtain ⟨id', a, b⟩ := ih q
      exact ⟨id', by simp [a], b⟩
theorem Fps.live {S : St} {w : World} {ι : Nat → Nat → Value} {ks : List (Nat × Nat)} {fs : List Nat} (h : Fps S w ι ks fs) : ∀ id ∈ ks, ∃ e, S.ent id.1 id.2 = some e ∧ e.live = true := by
  induction h with
  | nil => intro id hid; cases hid
  | cons id e f ks fs he hl hf hn t ih =>
    intro id' hid
    rcases List.mem_cons.1 hid with rfl | hid
    · exact ⟨e, he, hl⟩
    · exact ih id' hid
theorem fpb_nodup (c : Value) : (fpb c).Nodup := by
  unfold fpb
  cases blk c <;> simp

section
variable {Γ : Ctx} {F F1 : Nat → Prop} {ι : Nat → Nat → Value} {S : St} {a : Act} {w : World}

/-- What is handed over is live, what is looked at is a row. -/
structure Fit' (S : St) (ι : Nat → Nat → Value) (F1 : Nat → Prop) (ks ls : List (Nat × Nat)) : Prop where
  live : ∀ id ∈ ks, ∃ e, S.ent id.1 id.2 = some e ∧ e.live = true

theorem own_whole {D : Nat → Prop} {g j e sz n : Nat} {rows : List (List V)} {c : Value} (hc : RV w F D ι (.own g j sz 0 n) c) (ho : OR w F e sz (ι g j) n rows) : c = ι g j := by
  obtain ⟨flat, hown0, _⟩ := ho
  obtain ⟨hD, ⟨b, nn, cap, hι, hlo, hb0, hb1, hc⟩ | ⟨hl0', _⟩⟩ := hc.inv_own
  case inr => omega
  rcases hown0.2 with ⟨hv, hz⟩ | ⟨g0, cap0, cur, hv, _⟩
  · rw [hι] at hv
    injection hv with e1 e2 e3
    subst e1; subst e2; subst e3; subst hz
    rw [hc, hι]; simp
  · rw [hι] at hv
    injection hv with e1 e2 e3
    subst e1; subst e2; subst e3
    rw [hc, hι]
    by_cases q : cap = 0
    · simp [q]
    · simp [q, Addr.add]

theorem OR.mono {F' : Nat → Prop} (hF : ∀ k, F k → F' k) {e sz n : Nat} {rows : List (List V)} {c : Value} (h : OR w F e sz c n rows) : OR w F' e sz c n rows := by
  obtain ⟨flat, h1, h2, h3, h4⟩ := h
  exact ⟨flat, h1, h2.mono (fun _ _ _ => rfl) hF, h3, h4⟩

theorem row_fv {e sz n : Nat} {rows : List (List V)} {c : Value} {flat : List Value} (ho : w.ownsRow 0 e sz c n flat) (hf : FL w F1 rows.flatten flat) (hn : rows.length = n) (hl : ∀ r ∈ rows, r.length = sz) (hb : ∀ k, blk c = some k → F1 k) : FV w F1 (.sl sz n rows) c := by
  rcases ho.2 with ⟨hv, h0⟩ | ⟨g0, cap, cur, hv, _, hg, hnc, hcm, hcs, ht⟩
  · rw [hv]
    subst h0
    have : rows = [] := List.eq_nil_of_length_eq_zero hn
    subst this
    exact .sl0 sz none 0
  · have hb' := hb g0 (by rw [hv]; rfl)
    rw [hv]
    refine .sl sz n rows g0 0 cap flat hb' hf hn hl hnc ?_
    intro q u hu
    rw [cell_of_row w g0 (0 + q) cur e (0, 0) hg, Nat.zero_add]
    rw [← ht, List.getElem?_take] at hu
    split at hu
    · simpa using hu
    · cases hu
theorem view_flat (rows : List (List V)) : viewL rows.flatten = (rows.map viewL).flatten := by
  induction rows with
  | nil => rfl
  | cons r rows ih =>
    rw [List.flatten_cons, List.map_cons, List.flatten_cons, ← ih, viewL_eq, viewL_eq, viewL_eq, List.map_append]
theorem row_sub {D : Nat → Prop} {e sz n' lo n g j : Nat} {rows : List (List V)} {c : Value} (hF : ∀ k, F k → F1 k) (hr : OR w F e sz (ι g j) n' rows) (hb : ∀ k, blk (ι g j) = some k → F1 k) (hc : RC w F D ι (.own g j sz lo n) c) (hle : lo + n ≤ n') : FV w F1 (.sl sz n ((rows.drop lo).take n)) c := by
  obtain ⟨flat, ho, hf, hn, hl⟩ := hr
  exact frz_sub (e := 0) (D := D) (row_fv ho (hf.mono (fun _ _ _ => rfl) hF) hn hl hb) (hc.mono (fun _ _ _ => rfl) hF (fun _ x => x) (fun _ _ _ => rfl)) hle

theorem own_wholeO {D : Nat → Prop} {g j e sz n : Nat} {flat : List Value} {c : Value} (hc : RV w F D ι (.own g j sz 0 n) c) (hown0 : w.ownsRow 0 e sz (ι g j) n flat) : c = ι g j := by
  obtain ⟨hD, ⟨b, nn, cap, hι, hlo, hb0, hb1, hc⟩ | ⟨hl0', _⟩⟩ := hc.inv_own
  case inr => omega
  rcases hown0.2 with ⟨hv, hz⟩ | ⟨g0, cap0, cur, hv, _⟩
  · rw [hι] at hv
    injection hv with e1 e2 e3
    subst e1; subst e2; subst e3; subst hz
    rw [hc, hι]; simp
  · rw [hι] at hv
    injection hv with e1 e2 e3
    subst e1; subst e2; subst e3
    rw [hc, hι]
    by_cases q : cap = 0
    · simp [q]
    · simp [q, Addr.add]
mutual
theorem BC.memF {F1 : Nat → Prop} (hF : ∀ k, F k → F1 k) : ∀ {v c f}, BC w F v c f → (∀ k ∈ f, F1 k) → FV w F1 (viewC v) c
  | v, c, _, .fv _ _ h, _ => by
    have : viewC v = v := by cases h <;> rfl
    rw [this]
    exact h.mono (fun _ _ _ => rfl) hF
  | _, _, _, .osl e sz n rows c h, hb => by
    obtain ⟨flat, ho, hf, hn, hl⟩ := h
    exact row_fv ho (hf.mono (fun _ _ _ => rfl) hF) hn hl fun k hk => hb k (mem_fpb.2 hk)
  | _, _, _, .dsl e sz n rows c flat fs ho hr hn hl, hb => by
    have h2 := BL.memF hF hr fun k hk => hb k (List.mem_append.2 (.inr hk))
    rw [show viewC (.dsl e sz n rows) = .sl sz n (viewR rows) from rfl, viewR_eq]
    refine row_fv ho ?_ (by simpa using hn) ?_ fun k hk => hb k (List.mem_append.2 (.inl (mem_fpb.2 hk)))
    · rw [← view_flat]; exact h2
    · intro r hr'
      obtain ⟨r0, h0, rfl⟩ := List.mem_map.1 hr'
      rw [viewL_eq, List.length_map]
      exact hl r0 h0
theorem BL.memF {F1 : Nat → Prop} (hF : ∀ k, F k → F1 k) : ∀ {vs cs f}, BL w F vs cs f → (∀ k ∈ f, F1 k) → FL w F1 (viewL vs) cs
  | _, _, _, .nil, _ => .nil
  | _, _, _, .cons v c f vs cs fs h t, hb => .cons _ _ _ _ (BC.memF hF h fun k hk => hb k (List.mem_append.2 (.inl hk))) (BL.memF hF t fun k hk => hb k (List.mem_append.2 (.inr hk)))
end
theorem cellM_run (h : Rel Γ F ι S a w) (hF : ∀ k, F k → F1 k) {ck om : Option Nat} {v : V} {c : Value} {r : AR V} {lg : List (Nat × Nat)} (hc : RC w F S.D ι v c) (hm : cellM ck om v S.ent = some (r, lg)) (hob : ∀ p ∈ r.obl, p)
    (hL : ∀ id ∈ r.ls, ∀ e k, S.ent id.1 id.2 = some e → EB w e (ι id.1 id.2) k → F1 k) : ∃ fp, BC w F1 r.v c fp ∧ Fps S w ι r.ks fp ∧ (∀ id ∈ r.ls, ∃ e, S.ent id.1 id.2 = some e ∧ e.live = true) := by
  unfold cellM at hm
  cases om with
  | some e =>
    simp only at hm
    cases v <;> try (cases hm; done)
    case nil =>
      have := RdM.pure_some hm
      injection this with h1 h2
      subst h1
      have hcc : c = .slice none 0 0 := (RV.cell hc).inv_nil
      subst hcc
      refine ⟨[], ?_, .nil, by simp⟩
      simp only
      split
      · exact BC.osl (w := w) (F := F1) e (ck.getD 0) 0 [] (.slice none 0 0) ⟨[], World.ownsRow_nil w 0 e _, .nil, rfl, by simp⟩
      · exact BC.dsl (w := w) (F := F1) (e - deepE) (ck.getD 0) 0 [] (.slice none 0 0) [] [] (World.ownsRow_nil w 0 _ _) .nil rfl (by simp)
    case own g j sz lo n =>
      cases lo with
      | succ q => cases hm
      | zero =>
      simp only at hm
      obtain ⟨en, l1, l2, hrd, hp, hl12⟩ := RdM.bind_some hm
      clear hm
      have he := (RdM.rd_some hrd).1
      simp only at he
      have hre := h.ents g j en he
      cases en <;> try (cases hp; done)
      case row e' sz' n' rows =>
        simp only at hp
        split at hp <;> try (cases hp; done)
        rename_i hcond
        obtain ⟨rfl, rfl⟩ := hcond
        have := RdM.pure_some hp
        injection this with h1 h2
        subst h1
        have hnn : n = n' := hob _ (by simp)
        subst hnn
        have hcw := own_whole (RV.cell hc) hre
        subst hcw
        exact ⟨fpb (ι g j), .osl _ _ _ _ _ (OR.mono hF hre), .one he rfl (fun k hk => mem_fpb.1 hk) (fpb_nodup _), by simp⟩
      case deep o e' sz' n' rows =>
        cases o <;> try (cases hp; done)
        simp only at hp
        split at hp <;> try (cases hp; done)
        rename_i hcond
        obtain ⟨rfl, rfl⟩ := hcond
        have := RdM.pure_some hp
        injection this with h1 h2
        subst h1
        have hnn : n = n' := hob _ (by simp)
        subst hnn
        obtain ⟨flat, fs, ho, hkl, hn, hl, hd, hnr⟩ := hre
        have hcw := own_wholeO (RV.cell hc) ho
        subst hcw
        exact ⟨fpb (ι g j) ++ fs, .dsl _ _ _ _ _ flat fs ho ((hkl.blOf (hnr rfl).flat).mono (fun _ _ _ => rfl) hF fun _ _ => rfl) hn hl, .one he rfl (fun k hk => (EB.deep_iff ho hkl).2 hk) hd, by simp⟩
  | none =>
    simp only at hm
    cases v <;> try (cases hm; done)
    case own g j sz lo n =>
      simp only at hm
      obtain ⟨en, l1, l2, hrd, hp, hl12⟩ := RdM.bind_some hm
      clear hm
      have he := (RdM.rd_some hrd).1
      simp only at he
      have hre := h.ents g j en he
      cases en <;> try (cases hp; done)
      case row e' sz' n' rows =>
        simp only at hp
        split at hp <;> try (cases hp; done)
        rename_i hcond
        subst hcond
        have := RdM.pure_some hp
        injection this with h1 h2
        subst h1
        obtain ⟨flat, _, _, hn', _⟩ := id hre
        obtain ⟨hle, hp1, hp2⟩ := partR_spec hn' hob
        simp only [hp1, hp2]
        refine ⟨[], .fv _ _ (row_sub hF hre (fun k hk => hL (g, j) (by simp) _ k he hk) hc hle), .nil, ?_⟩
        intro id hid
        simp at hid
        subst hid
        exact ⟨_, he, rfl⟩
      case frz sz' n' rows =>
        simp only at hp
        split at hp <;> try (cases hp; done)
        rename_i hcond
        subst hcond
        have := RdM.pure_some hp
        injection this with h1 h2
        subst h1
        have hr : FV w F (.sl sz n' rows) (ι g j) := hre
        obtain ⟨hle, hp1, hp2⟩ := partR_spec hr.rows_len hob
        simp only [hp1, hp2]
        exact ⟨[], .fv _ _ ((frz_sub (e := 0) (D := S.D) hre hc hle).mono (fun _ _ _ => rfl) hF), .nil, by simp⟩
      case deep o e' sz' n' rows =>
        cases o <;> try (cases hp; done)
        simp only at hp
        split at hp <;> try (cases hp; done)
        rename_i hcond
        subst hcond
        have := RdM.pure_some hp
        injection this with h1 h2
        subst h1
        obtain ⟨flat, fs, ho, hkl, hn', hl, hd, hnr⟩ := id hre
        have hall : ∀ k ∈ fpb (ι g j) ++ fs, F1 k := fun k hk => hL (g, j) (by simp) _ k he ((EB.deep_iff ho hkl).2 hk)
        have hfv : FV w F1 (.sl sz n' (viewR rows)) (ι g j) := BC.memF hF (.dsl e' sz n' rows (ι g j) flat fs ho (hkl.blOf (hnr rfl).flat) hn' hl) hall
        obtain ⟨hle, hp1, hp2⟩ := partR_spec hfv.rows_len hob
        simp only [hp1, hp2]
        refine ⟨[], .fv _ _ (frz_sub (e := 0) (D := S.D) hfv (hc.mono (fun _ _ _ => rfl) hF (fun _ x => x) (fun _ _ _ => rfl)) hle), .nil, ?_⟩
        intro id hid
        simp at hid
        subst hid
        exact ⟨_, he, rfl⟩
    case nil =>
      have hcc : c = .slice none 0 0 := (RV.cell hc).inv_nil
      subst hcc
      cases ck with
      | some sz =>
        have := RdM.pure_some hm
        injection this with h1 h2
        subst h1
        exact ⟨[], .fv _ _ (.sl0 sz none 0), .nil, by simp⟩
      | none =>
        have := RdM.pure_some hm
        injection this with h1 h2
        subst h1
        exact ⟨[], .fv _ _ .nil, .nil, by simp⟩
    all_goals
      have := RdM.pure_some hm
      injection this with h1 h2
      subst h1
      refine ⟨[], .fv _ _ ?_, .nil, by simp⟩
      cases hc with
      | fv v c h => exact h.mono (fun _ _ _ => rfl) hF

/-- What is told of what is handed over. -/
def Handed (S : St) (ks ls : List (Nat × Nat)) : Prop := (∀ id ∈ ks, ∃ e, S.ent id.1 id.2 = some e ∧ e.live = true) ∧ (∀ id ∈ ls, ∃ e, S.ent id.1 id.2 = some e ∧ e.live = true)

theorem Handed.append {S : St} {k1 k2 l1 l2 : List (Nat × Nat)} (h : Handed S k1 l1) (h' : Handed S k2 l2) : Handed S (k1 ++ k2) (l1 ++ l2) :=
  ⟨fun id hid => (List.mem_append.1 hid).elim (h.1 id) (h'.1 id), fun id hid => (List.mem_append.1 hid).elim (h.2 id) (h'.2 id)⟩

theorem cellsM_run (h : Rel Γ F ι S a w) (hF : ∀ k, F k → F1 k) {vs : List V} {cs : List Value} (hc : All2 (RC w F S.D ι) vs cs) : ∀ {ck om : List (Option Nat)} {r : AR (List V)} {lg : List (Nat × Nat)}, cellsM ck om vs S.ent = some (r, lg) → (∀ p ∈ r.obl, p) →
    (∀ id ∈ r.ls, ∀ e k, S.ent id.1 id.2 = some e → EB w e (ι id.1 id.2) k → F1 k) → ∃ fp, BL w F1 r.v cs fp ∧ Fps S w ι r.ks fp ∧ Handed S r.ks r.ls := by
  induction hc with
  | nil =>
    intro ck om r lg hm hob hL
    have := RdM.pure_some hm
    injection this with h1 h2
    subst h1
    exact ⟨[], .nil, .nil, by simp [Handed]⟩
  | cons hv ht ih =>
    intro ck om r lg hm hob hL
    obtain ⟨x, l1, l2, hx, hm1, _⟩ := RdM.bind_some hm
    obtain ⟨y, l3, l4, hy, hm2, _⟩ := RdM.bind_some hm1
    have := RdM.pure_some hm2
    injection this with h1 h2
    subst h1
    obtain ⟨f1, b1, p1, k2⟩ := cellM_run h hF hv hx (fun p hp => hob p (List.mem_append.2 (.inl hp))) (fun id hid => hL id (List.mem_append.2 (.inl hid)))
    obtain ⟨f2, b2, p2, hh⟩ := ih hy (fun p hp => hob p (List.mem_append.2 (.inr hp))) (fun id hid => hL id (List.mem_append.2 (.inr hid)))
    exact ⟨f1 ++ f2, .cons _ _ _ _ _ _ b1 b2, p1.append p2, Handed.append ⟨p1.live, k2⟩ hh⟩

theorem argM_run (h : Rel Γ F ι S a w) (hF : ∀ k, F k → F1 k) {m : PM} {v : V} {c : Value} {r : AR V} {lg : List (Nat × Nat)} (hc : RV w F S.D ι v c) (hm : argM m v S.ent = some (r, lg)) (hob : ∀ p ∈ r.obl, p)
    (hL : ∀ id ∈ r.ls, ∀ e k, S.ent id.1 id.2 = some e → EB w e (ι id.1 id.2) k → F1 k) : ∃ fp, BA w F1 r.v c fp ∧ Fps S w ι r.ks fp ∧ Handed S r.ks r.ls := by
  have cell : ∀ {v : V} {ck om : Option Nat}, RV w F S.D ι v c → (∀ cs, v ≠ .agg cs) → (∀ cs, v ≠ .tup cs) → v ≠ .bot → cellM ck om v S.ent = some (r, lg) → ∃ fp, BA w F1 r.v c fp ∧ Fps S w ι r.ks fp ∧ Handed S r.ks r.ls := by
    intro v ck om hc h1 h2 h3 hm
    have hrc : RC w F S.D ι v c := by
      cases hc with
      | one v c h => cases h with
        | cell v c h => exact h
        | agg cs ds h => exact absurd rfl (h1 cs)
      | tup cs ds h => exact absurd rfl (h2 cs)
      | any c => exact absurd rfl h3
    obtain ⟨f, b, p, k⟩ := cellM_run h hF hrc hm hob hL
    exact ⟨f, .cell _ _ _ b, p, p.live, k⟩
  cases m with
  | val ck om =>
    unfold argM at hm
    cases v <;> try (cases hm; done)
    case agg cs =>
      simp only at hm
      obtain ⟨x, l1, l2, hx, hm1, _⟩ := RdM.bind_some hm
      have := RdM.pure_some hm1
      injection this with h1 h2
      subst h1
      obtain ⟨ds, rfl, hall⟩ := hc.inv_agg
      obtain ⟨f, b, p, hh⟩ := cellsM_run h hF hall hx hob hL
      exact ⟨f, .agg _ _ _ b, p, hh⟩
    all_goals exact cell hc (by simp) (by simp) (by simp) hm
  | ptr ck om =>
    unfold argM at hm
    cases v <;> try (cases hm; done)
    case ptr g j off =>
      cases off with
      | succ q => cases hm
      | zero =>
      simp only at hm
      obtain ⟨en, l1, l2, hrd, hp, hl12⟩ := RdM.bind_some hm
      clear hm
      have he := (RdM.rd_some hrd).1
      simp only at he
      have hre := h.ents g j en he
      cases en <;> try (cases hp; done)
      case var e cs =>
        simp only at hp
        obtain ⟨x, l3, l4, hx, hm1, _⟩ := RdM.bind_some hp
        have := RdM.pure_some hm1
        injection this with h1 h2
        subst h1
        obtain ⟨hD, b, hι, rfl⟩ := hc.inv_ptr
        obtain ⟨g0, cur, h1, hg, hall⟩ := hre
        rw [hι] at h1
        injection h1 with h1
        injection h1 with h1
        injection h1 with h1
        subst h1
        obtain ⟨f, bl, p, hh⟩ := cellsM_run h hF hall hx hob hL
        have hp := Fps.cons (S := S) (w := w) (ι := ι) (g, j) _ [b] _ _ he rfl (fun k hk => by
          rw [List.mem_singleton.1 hk]
          exact EB.top (by rw [hι]; rfl)) (by simp) p
        exact ⟨b :: f, .optr _ _ _ _ _ hg bl, hp, hp.live, hh.2⟩
  | row =>
    unfold argM at hm
    cases v <;> try (cases hm; done)
    case own g j sz lo n =>
      cases lo with
      | succ q => cases hm
      | zero =>
      simp only at hm
      obtain ⟨en, l1, l2, hrd, hp, hl12⟩ := RdM.bind_some hm
      clear hm
      have he := (RdM.rd_some hrd).1
      simp only at he
      have hre := h.ents g j en he
      cases en <;> try (cases hp; done)
      case row e' sz' n' rows =>
        simp only at hp
        split at hp <;> try (cases hp; done)
        rename_i hcond
        subst hcond
        have := RdM.pure_some hp
        injection this with h1 h2
        subst h1
        have hnn : n = n' := hob _ (by simp)
        subst hnn
        have hcw := own_whole hc hre
        subst hcw
        have hp := Fps.one (w := w) (ι := ι) he rfl (fun k hk => mem_fpb.1 hk) (fpb_nodup _)
        exact ⟨fpb (ι g j), .cell _ _ _ (.osl _ _ _ _ _ (OR.mono hF hre)), hp, hp.live, by simp⟩
      case deep o e' sz' n' rows =>
        cases o <;> try (cases hp; done)
        simp only at hp
        split at hp <;> try (cases hp; done)
        rename_i hcond
        subst hcond
        have := RdM.pure_some hp
        injection this with h1 h2
        subst h1
        have hnn : n = n' := hob _ (by simp)
        subst hnn
        obtain ⟨flat, fs, ho, hkl, hn, hl, hd, hnr⟩ := hre
        have hcw := own_wholeO hc ho
        subst hcw
        have hp := Fps.one (w := w) (ι := ι) he rfl (fun k hk => (EB.deep_iff ho hkl).2 hk) hd
        exact ⟨fpb (ι g j) ++ fs, .cell _ _ _ (.dsl _ _ _ _ _ flat fs ho ((hkl.blOf (hnr rfl).flat).mono (fun _ _ _ => rfl) hF fun _ _ => rfl) hn hl), hp, hp.live, by simp⟩

theorem argsM_run (h : Rel Γ F ι S a w) (hF : ∀ k, F k → F1 k) {vs : List V} {cs : List Value} (hc : All2 (RV w F S.D ι) vs cs) : ∀ {ms : List PM} {r : AR (List V)} {lg : List (Nat × Nat)}, argsM ms vs S.ent = some (r, lg) → (∀ p ∈ r.obl, p) →
    (∀ id ∈ r.ls, ∀ e k, S.ent id.1 id.2 = some e → EB w e (ι id.1 id.2) k → F1 k) → ∃ fp, BS w F1 r.v cs fp ∧ Fps S w ι r.ks fp ∧ Handed S r.ks r.ls := by
  induction hc with
  | nil =>
    intro ms r lg hm hob hL
    have : argsM ms [] = RdM.pure { v := [] } := by cases ms <;> rfl
    rw [this] at hm
    have := RdM.pure_some hm
    injection this with h1 h2
    subst h1
    exact ⟨[], .nil, .nil, by simp [Handed]⟩
  | cons hv ht ih =>
    intro ms r lg hm hob hL
    cases ms with
    | nil => cases hm
    | cons m ms =>
    obtain ⟨x, l1, l2, hx, hm1, _⟩ := RdM.bind_some hm
    obtain ⟨y, l3, l4, hy, hm2, _⟩ := RdM.bind_some hm1
    have := RdM.pure_some hm2
    injection this with h1 h2
    subst h1
    obtain ⟨f1, b1, p1, k1⟩ := argM_run h hF hv hx (fun p hp => hob p (List.mem_append.2 (.inl hp))) (fun id hid => hL id (List.mem_append.2 (.inl hid)))
    obtain ⟨f2, b2, p2, hh⟩ := ih hy (fun p hp => hob p (List.mem_append.2 (.inr hp))) (fun id hid => hL id (List.mem_append.2 (.inr hid)))
    exact ⟨f1 ++ f2, .cons _ _ _ _ _ _ b1 b2, p1.append p2, Handed.append k1 hh⟩

end

end Go.Proofs.Ythegkbaijmkhfaa
