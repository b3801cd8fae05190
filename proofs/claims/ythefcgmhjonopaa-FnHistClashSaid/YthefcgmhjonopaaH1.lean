/- Plain laws: copies, sizes, entries by themselves, neighbours that can be swapped. -/
import Derived.Test.YthefcgmhjonopaaPl1
import Derived.Test.YthefcgmhjonopaaOp
import Derived.Test.YthefcgmhjonopaaF5
set_option linter.unusedVariables false
set_option linter.unusedSimpArgs false
namespace Go.Proofs.Ythefcgmhjonopaa
open Go

theorem okL.fits {α : Type} {bytes : Nat} {ok : α → Prop} {l : List α} (h : okL bytes ok l) (hb : 0 < bytes) : Fits l := by
  obtain ⟨h, _⟩ := h
  unfold Fits
  have : l.length * 1 ≤ l.length * bytes := Nat.mul_le_mul_left _ hb
  omega
/-- What is asked of sizes alone. -/
def fRun (x : TRun) : Prop := okL 16 okT x.Reads ∧ okL 16 okT x.Puts ∧ True
def fEntry (x : TEntry) : Prop := True ∧ fRun x.Run
theorem okL.imp {α : Type} {bytes : Nat} {ok ok' : α → Prop} {l : List α} (h : okL bytes ok l) (hi : ∀ x, ok x → ok' x) : okL bytes ok' l := ⟨h.1, fun x hx => hi x (h.2 x hx)⟩
/-! ### Copies -/
/-! ### Sizes -/
/-! ### A list is itself -/
/-! ### Runs: the small looks -/
def saw (l : List TRead) (box : Int) : Bool := l.any (·.Box == box)
def sawP (l : List TPut) (box : Int) : Bool := l.any (·.Box == box)
theorem l3Saw_eq {l : List TRead} (h : Fits l) (box : Int) : spec_l3Saw l box = some (saw l box) := by
  unfold spec_l3Saw
  rw [all_loop l h (fun x => !(x.Box == box)) true ()]
  · unfold saw
    rw [List.any_eq_not_all_not]
    cases l.all fun x => !(x.Box == box) <;> rfl
  · intro k hk
    unfold spec_l3Saw_b1
    rw [lt_len l k hk, idx_lt hk]
    cases hq : l[k].Box == box <;> simp [hq]
  · unfold spec_l3Saw_b1
    rw [nlt_len]; rfl
/-- A loop that finds a place, or none. -/
theorem at_loop {α B : Type} {body : Int → Option (Stp Int Int B)} (l : List α) (hl : Fits l) (is : α → Bool) (b : B)
    (h1 : ∀ (k : Nat) (h : k < l.length), body (k : Int) = some (bif is l[k] then .ret (k : Int) else .nxt (w64 ((k : Int) + 1))))
    (h2 : body (l.length : Int) = some (.brk b)) : (loop body 0 = some (.brk b) ∧ l.any is = false) ∨ ∃ k : Nat, loop body 0 = some (.ret (k : Int)) ∧ l.any is = true := by
  have h := loop_chk (body := body) (fun k => (k : Int)) l.length (fun k => match l[k]? with | some x => !is x | none => true) (fun k => (k : Int)) b
    (fun k hk _ => by
      have := h1 k hk
      rw [w64_next hl hk] at this
      rw [this]
      simp only [List.getElem?_eq_getElem hk]
      cases is l[k] <;> rfl) (fun _ => h2)
  rcases h with ⟨h, hall⟩ | ⟨k, hk, ho, _, h⟩
  · left
    refine ⟨h, ?_⟩
    rw [List.any_eq_false]
    intro x hx
    obtain ⟨i, hi, rfl⟩ := List.getElem_of_mem hx
    have := hall i hi
    simpa [List.getElem?_eq_getElem hi] using this
  · right
    refine ⟨k, h, ?_⟩
    rw [List.any_eq_true]
    refine ⟨l[k], List.getElem_mem hk, ?_⟩
    simpa [List.getElem?_eq_getElem hk] using ho
theorem l3At_eq {l : List TPut} (h : Fits l) (box : Int) : ∃ v, spec_l3At l box = some v ∧ decide (v ≥ 0) = sawP l box := by
  unfold spec_l3At
  rcases at_loop (body := fun s : Int => spec_l3At_b1 l box s) l h (fun x => x.Box == box) () (by
    intro k hk
    unfold spec_l3At_b1
    rw [lt_len l k hk, idx_lt hk]
    cases hq : l[k].Box == box <;> simp [hq]) (by unfold spec_l3At_b1; rw [nlt_len]; rfl) with ⟨h1, h2⟩ | ⟨k, h1, h2⟩
  · rw [h1]
    exact ⟨-1, rfl, h2.symm⟩
  · rw [h1]
    refine ⟨k, rfl, ?_⟩
    rw [show sawP l box = true from h2]
    simp
theorem putAt_eq {x : TRun} (h : Fits x.Puts) (box : Int) : ∃ v, impl_putAt x box = some v ∧ decide (v ≥ 0) = sawP x.Puts box := by
  unfold impl_putAt
  rcases at_loop (body := fun s : Int => impl_putAt_b1 x box s) x.Puts h (fun x => x.Box == box) () (by
    intro k hk
    unfold impl_putAt_b1
    rw [lt_len x.Puts k hk, idx_lt hk]
    cases hq : x.Puts[k].Box == box <;> simp [hq]) (by unfold impl_putAt_b1; rw [nlt_len]; rfl) with ⟨h1, h2⟩ | ⟨k, h1, h2⟩
  · rw [h1]
    exact ⟨-1, rfl, h2.symm⟩
  · rw [h1]
    refine ⟨k, rfl, ?_⟩
    rw [show sawP x.Puts box = true from h2]
    simp
theorem readAt_eq {x : TRun} (h : Fits x.Reads) (box : Int) : ∃ v, impl_readAt x box = some v ∧ decide (v ≥ 0) = saw x.Reads box := by
  unfold impl_readAt
  rcases at_loop (body := fun s : Int => impl_readAt_b1 x box s) x.Reads h (fun x => x.Box == box) () (by
    intro k hk
    unfold impl_readAt_b1
    rw [lt_len x.Reads k hk, idx_lt hk]
    cases hq : x.Reads[k].Box == box <;> simp [hq]) (by unfold impl_readAt_b1; rw [nlt_len]; rfl) with ⟨h1, h2⟩ | ⟨k, h1, h2⟩
  · rw [h1]
    exact ⟨-1, rfl, h2.symm⟩
  · rw [h1]
    refine ⟨k, rfl, ?_⟩
    rw [show saw x.Reads box = true from h2]
    simp
def clashes (a b : TRun) (box : Int) : Bool := (sawP a.Puts box && (sawP b.Puts box || saw b.Reads box)) || (sawP b.Puts box && saw a.Reads box)
theorem l13Clash_eq {a b : TRun} (ha : fRun a) (hb : fRun b) (box : Int) : spec_l13Clash a b box = some (clashes a b box) := by
  obtain ⟨v1, h1, g1⟩ := l3At_eq (ha.2.1.fits (by decide)) box
  obtain ⟨v2, h2, g2⟩ := l3At_eq (hb.2.1.fits (by decide)) box
  unfold spec_l13Clash
  simp only [h1, h2, g1, g2, l3Saw_eq (ha.1.fits (by decide)), l3Saw_eq (hb.1.fits (by decide)), Option.bind_some]
  unfold clashes
  cases sawP a.Puts box <;> cases sawP b.Puts box <;> cases saw a.Reads box <;> cases saw b.Reads box <;> rfl
theorem clash_eq {a b : TRun} (ha : fRun a) (hb : fRun b) (box : Int) : impl_clash a b box = some (clashes a b box) := by
  obtain ⟨v1, h1, g1⟩ := putAt_eq (ha.2.1.fits (by decide)) box
  obtain ⟨v2, h2, g2⟩ := putAt_eq (hb.2.1.fits (by decide)) box
  obtain ⟨v3, h3, g3⟩ := readAt_eq (ha.1.fits (by decide)) box
  obtain ⟨v4, h4, g4⟩ := readAt_eq (hb.1.fits (by decide)) box
  unfold impl_clash
  simp only [h1, h2, h3, h4, g1, g2, g3, g4, Option.bind_some]
  unfold clashes
  cases sawP a.Puts box <;> cases sawP b.Puts box <;> cases saw a.Reads box <;> cases saw b.Reads box <;> rfl

/-! ### Ranges -/
def inR (n lo hi : Int) : Bool := decide (lo ≤ n ∧ n ≤ hi)
theorem in_eq (n lo hi : Int) : impl_in n lo hi = some (inR n lo hi) := by
  unfold impl_in inR
  by_cases h : n ≥ lo
  · have h' : lo ≤ n := h
    simp [h']
  · have h' : ¬ lo ≤ n := h
    simp [h']
theorem l1Num_eq (n : Int) : spec_l1Num n = some (inR n (-1000000) 1000000) := in_eq n (-1000000) 1000000
theorem l2Box_eq (n : Int) : spec_l2Box n = some (inR n 0 3) := by
  rw [← in_eq]
  unfold spec_l2Box impl_in
  have : (n < 4) = (n ≤ 3) := by apply propext; omega
  simp only [this]
theorem reqOk_eq (q : TReq) : impl_reqOk q = some (inR q.Who 0 2 && inR q.Seq 1 1000) := by
  unfold impl_reqOk
  simp only [in_eq, Option.bind_some]
  cases inR q.Who 0 2 <;> rfl
theorem l5Req_eq (q : TReq) : spec_l5Req q = some (inR q.Who 0 2 && inR q.Seq 1 1000) := by
  have h3 : (q.Who < 3) = (q.Who ≤ 2) := by apply propext; omega
  unfold spec_l5Req inR
  simp only [h3]
  by_cases h1 : q.Who ≥ 0 <;> by_cases h2 : q.Who ≤ 2 <;> by_cases h4 : q.Seq ≥ 1 <;> by_cases h5 : q.Seq ≤ 1000 <;> simp [h1, h2, h4, h5] <;> omega

/-! ### A run by itself -/
def okReads (l : List TRead) (k : Nat) : Bool := match l[k]? with
  | some x => inR x.Box 0 3 && (inR x.Ver 0 1000000 && !saw (l.take k) x.Box)
  | none => true
def okPuts (l : List TPut) (k : Nat) : Bool := match l[k]? with
  | some x => inR x.Box 0 3 && (inR x.Val (-1000000) 1000000 && !sawP (l.take k) x.Box)
  | none => true
theorem take_fits {α : Type} {l : List α} (h : Fits l) (k : Nat) : Fits (l.take k) := by
  unfold Fits at h ⊢
  rw [List.length_take]
  omega
theorem readsS {r : TRun} (h : Fits r.Reads) : loop (fun s : Int => spec_ExecOk_b2 r s) 0 = some (bif (List.range r.Reads.length).all (okReads r.Reads) then .brk () else .ret false) := by
  refine alli_loop r.Reads h (okReads r.Reads) false () ?_ ?_
  · intro k hk _
    unfold spec_ExecOk_b2 okReads need
    rw [lt_len _ k hk, idx_lt hk, List.getElem?_eq_getElem hk]
    have hp : (0 : Int) ≤ (k : Int) ∧ (k : Int) ≤ (r.Reads.length : Int) := by constructor <;> omega
    simp only [cond_true, Option.bind_some, if_pos hp, l2Box_eq, Int.toNat_natCast, Nat.sub_zero, List.drop_zero, l3Saw_eq (take_fits h k)]
    cases inR r.Reads[k].Box 0 3
    · rfl
    · unfold inR
      by_cases h1 : r.Reads[k].Ver < 0
      · have h1' : ¬ 0 ≤ r.Reads[k].Ver := by omega
        simp [h1, h1']
      · have h1' : 0 ≤ r.Reads[k].Ver := by omega
        by_cases h2 : r.Reads[k].Ver > 1000000
        · have h2' : ¬ r.Reads[k].Ver ≤ 1000000 := by omega
          simp [h1, h1', h2, h2']
        · have h2' : r.Reads[k].Ver ≤ 1000000 := by omega
          simp only [h1, h1', h2, h2', decide_false, decide_true, Bool.not_true, cond_false, Bool.true_and, and_self]
          cases saw (r.Reads.take k) r.Reads[k].Box <;> rfl
  · unfold spec_ExecOk_b2
    rw [nlt_len]; rfl
theorem putsS {r : TRun} (h : Fits r.Puts) : loop (fun s : Int => spec_ExecOk_b1 r s) 0 = some (bif (List.range r.Puts.length).all (okPuts r.Puts) then .brk () else .ret false) := by
  refine alli_loop r.Puts h (okPuts r.Puts) false () ?_ ?_
  · intro k hk _
    obtain ⟨v, hv, hg⟩ := l3At_eq (take_fits h k) r.Puts[k].Box
    unfold spec_ExecOk_b1 okPuts need
    rw [lt_len _ k hk, idx_lt hk, List.getElem?_eq_getElem hk]
    have hp : (0 : Int) ≤ (k : Int) ∧ (k : Int) ≤ (r.Puts.length : Int) := by constructor <;> omega
    simp only [cond_true, Option.bind_some, if_pos hp, l2Box_eq, l1Num_eq, Int.toNat_natCast, Nat.sub_zero, List.drop_zero, hv, hg]
    cases inR r.Puts[k].Box 0 3
    · rfl
    · cases inR r.Puts[k].Val (-1000000) 1000000
      · rfl
      · cases sawP (r.Puts.take k) r.Puts[k].Box <;> rfl
  · unfold spec_ExecOk_b1
    rw [nlt_len]; rfl

/-! ### The same with a bit for each box -/
def bits (f : Int → Bool) : List Bool := [f 0, f 1, f 2, f 3]
theorem bits_at {f : Int → Bool} {b : Int} (h : inR b 0 3 = true) : idx (bits f) b = some (f b) ∧ b < 4 := by
  have h : 0 ≤ b ∧ b ≤ 3 := by simpa [inR] using h
  have : b = 0 ∨ b = 1 ∨ b = 2 ∨ b = 3 := by omega
  rcases this with rfl | rfl | rfl | rfl <;> exact ⟨rfl, by decide⟩
theorem bits_set {f g : Int → Bool} {b : Int} (h : inR b 0 3 = true) (hb : g b = true) (hne : ∀ c, c ≠ b → g c = f c) : (bits f).set b.toNat true = bits g := by
  have h : 0 ≤ b ∧ b ≤ 3 := by simpa [inR] using h
  have : b = 0 ∨ b = 1 ∨ b = 2 ∨ b = 3 := by omega
  unfold bits
  rcases this with rfl | rfl | rfl | rfl
  all_goals
    rw [show [g 0, g 1, g 2, g 3] = _ from rfl]
    first
      | rw [hb, hne 1 (by decide), hne 2 (by decide), hne 3 (by decide)]; rfl
      | rw [hb, hne 0 (by decide), hne 2 (by decide), hne 3 (by decide)]; rfl
      | rw [hb, hne 0 (by decide), hne 1 (by decide), hne 3 (by decide)]; rfl
      | rw [hb, hne 0 (by decide), hne 1 (by decide), hne 2 (by decide)]; rfl
theorem saw_next {l : List TRead} {k : Nat} (hk : k < l.length) (b : Int) : saw (l.take (k + 1)) b = (saw (l.take k) b || (l[k].Box == b)) := by
  unfold saw
  rw [List.take_succ_eq_append_getElem hk, List.any_append]
  simp
theorem sawP_next {l : List TPut} {k : Nat} (hk : k < l.length) (b : Int) : sawP (l.take (k + 1)) b = (sawP (l.take k) b || (l[k].Box == b)) := by
  unfold sawP
  rw [List.take_succ_eq_append_getElem hk, List.any_append]
  simp
theorem saw_other {l : List TRead} {k : Nat} (hk : k < l.length) (c : Int) (hc : c ≠ l[k].Box) : saw (l.take (k + 1)) c = saw (l.take k) c := by
  have : (l[k].Box == c) = false := by simpa using fun h => hc h.symm
  rw [saw_next hk, this, Bool.or_false]
theorem sawP_other {l : List TPut} {k : Nat} (hk : k < l.length) (c : Int) (hc : c ≠ l[k].Box) : sawP (l.take (k + 1)) c = sawP (l.take k) c := by
  have : (l[k].Box == c) = false := by simpa using fun h => hc h.symm
  rw [sawP_next hk, this, Bool.or_false]
theorem chk_all {R S B : Type} {x : Option (Exc R B)} {n : Nat} {ok : Nat → Bool} {r : R} {b : B} (h : (x = some (.brk b) ∧ ∀ j, j < n → ok j = true) ∨ ∃ k, k < n ∧ ok k = false ∧ (∀ j, j < k → ok j = true) ∧ x = some (.ret r)) : x = some (bif (List.range n).all ok then .brk b else .ret r) := by
  rcases h with ⟨h, hall⟩ | ⟨k, hk, ho, _, h⟩
  · have : (List.range n).all ok = true := by
      rw [List.all_eq_true]
      intro x hx
      exact hall x (by simpa using hx)
    rw [this]; exact h
  · have : (List.range n).all ok = false := by
      rw [List.all_eq_false]
      exact ⟨k, by simpa using hk, by simp [ho]⟩
    rw [this]; exact h
theorem readsI {r : TRun} (h : Fits r.Reads) : loop (fun s : List Bool × Int => impl_ExecOk_b2 r s.1 s.2) (List.replicate 4 false, 0) = some (bif (List.range r.Reads.length).all (okReads r.Reads) then .brk () else .ret false) := by
  refine chk_all (S := List Bool × Int) (loop_chk (body := fun s : List Bool × Int => impl_ExecOk_b2 r s.1 s.2) (fun k => (bits (saw (r.Reads.take k)), (k : Int))) r.Reads.length (okReads r.Reads) (fun _ => false) () ?_ ?_)
  · intro k hk _
    simp only
    unfold impl_ExecOk_b2 okReads need
    rw [lt_len _ k hk, idx_lt hk, List.getElem?_eq_getElem hk]
    simp only [cond_true, Option.bind_some, in_eq]
    cases hb : inR r.Reads[k].Box 0 3
    · rfl
    · obtain ⟨h1, h2⟩ := bits_at (f := saw (r.Reads.take k)) hb
      rw [h1]
      simp only [if_pos h2, Bool.not_true, cond_false, Option.bind_some, Bool.true_and]
      cases hs : saw (r.Reads.take k) r.Reads[k].Box
      · cases inR r.Reads[k].Ver 0 1000000
        · rfl
        · simp only [Bool.not_true, cond_false, Bool.not_false, Bool.true_and, cond_true]
          rw [bits_set (f := saw (r.Reads.take k)) (g := saw (r.Reads.take (k + 1))) hb (by rw [saw_next hk]; simp) (saw_other hk), w64_next h hk]
      · cases inR r.Reads[k].Ver 0 1000000 <;> rfl
  · intro _
    simp only
    unfold impl_ExecOk_b2
    rw [nlt_len]; rfl
theorem putsI {r : TRun} (h : Fits r.Puts) : loop (fun s : List Bool × Int => impl_ExecOk_b1 r s.1 s.2) (List.replicate 4 false, 0) = some (bif (List.range r.Puts.length).all (okPuts r.Puts) then .brk () else .ret false) := by
  refine chk_all (S := List Bool × Int) (loop_chk (body := fun s : List Bool × Int => impl_ExecOk_b1 r s.1 s.2) (fun k => (bits (sawP (r.Puts.take k)), (k : Int))) r.Puts.length (okPuts r.Puts) (fun _ => false) () ?_ ?_)
  · intro k hk _
    simp only
    unfold impl_ExecOk_b1 okPuts need
    rw [lt_len _ k hk, idx_lt hk, List.getElem?_eq_getElem hk]
    simp only [cond_true, Option.bind_some, in_eq]
    cases hb : inR r.Puts[k].Box 0 3
    · rfl
    · obtain ⟨h1, h2⟩ := bits_at (f := sawP (r.Puts.take k)) hb
      rw [h1]
      simp only [if_pos h2, Bool.not_true, cond_false, Option.bind_some, Bool.true_and]
      cases hs : sawP (r.Puts.take k) r.Puts[k].Box
      · cases inR r.Puts[k].Val (-1000000) 1000000
        · rfl
        · simp only [Bool.not_true, cond_false, Bool.not_false, Bool.true_and, cond_true]
          rw [bits_set (f := sawP (r.Puts.take k)) (g := sawP (r.Puts.take (k + 1))) hb (by rw [sawP_next hk]; simp) (sawP_other hk), w64_next h hk]
      · cases inR r.Puts[k].Val (-1000000) 1000000 <;> rfl
  · intro _
    simp only
    unfold impl_ExecOk_b1
    rw [nlt_len]; rfl
def runOk (r : TRun) : Bool := inR r.Code 0 3 && (inR r.Val (-1000000) 1000000 && ((r.Code == 0 || (r.Val == 0 && r.Puts.length == 0)) && ((r.Code != 3 || r.Reads.length == 0) && ((List.range r.Reads.length).all (okReads r.Reads) && (List.range r.Puts.length).all (okPuts r.Puts)))))
theorem specOk_j {r : TRun} (h : fRun r) : spec_ExecOk_j1 r = some ((List.range r.Reads.length).all (okReads r.Reads) && (List.range r.Puts.length).all (okPuts r.Puts)) := by
  unfold spec_ExecOk_j1 spec_ExecOk_k6
  rw [readsS (h.1.fits (by decide)), putsS (h.2.1.fits (by decide))]
  cases (List.range r.Reads.length).all (okReads r.Reads) <;> cases (List.range r.Puts.length).all (okPuts r.Puts) <;> rfl
theorem implOk_j {r : TRun} (h : fRun r) : impl_ExecOk_j1 r = some ((List.range r.Reads.length).all (okReads r.Reads) && (List.range r.Puts.length).all (okPuts r.Puts)) := by
  unfold impl_ExecOk_j1 impl_ExecOk_k6
  rw [readsI (h.1.fits (by decide)), putsI (h.2.1.fits (by decide))]
  cases (List.range r.Reads.length).all (okReads r.Reads) <;> cases (List.range r.Puts.length).all (okPuts r.Puts) <;> rfl
theorem len_gt {α : Type} (l : List α) : decide ((l.length : Int) > 0) = !(l.length == 0) := by
  cases l <;> simp
theorem specOk_eq {r : TRun} (h : fRun r) : spec_ExecOk r = some (runOk r) := by
  unfold spec_ExecOk runOk
  rw [specOk_j h]
  simp only [l1Num_eq, len_gt, Option.bind_some, Exc.go]
  generalize ((List.range r.Reads.length).all (okReads r.Reads) && (List.range r.Puts.length).all (okPuts r.Puts)) = z
  generalize (r.Puts.length == 0) = a
  generalize (r.Reads.length == 0) = b
  generalize inR r.Val (-1000000) 1000000 = c
  have h3 : inR r.Code 0 3 = (!decide (r.Code < 0) && !decide (r.Code > 3)) := by
    unfold inR
    by_cases h1 : r.Code < 0 <;> by_cases h2 : r.Code > 3 <;> simp [h1, h2] <;> omega
  rw [h3]
  unfold bne
  cases decide (r.Code < 0) <;> cases decide (r.Code > 3) <;> cases c <;> cases (r.Code == 0) <;> cases (r.Val == 0) <;> cases a <;> cases (r.Code == 3) <;> cases b <;> rfl
theorem implOk_eq {r : TRun} (h : fRun r) : impl_ExecOk r = some (runOk r) := by
  unfold impl_ExecOk runOk
  rw [implOk_j h]
  simp only [in_eq, len_gt, Option.bind_some, Exc.go]
  generalize ((List.range r.Reads.length).all (okReads r.Reads) && (List.range r.Puts.length).all (okPuts r.Puts)) = z
  generalize (r.Puts.length == 0) = a
  generalize (r.Reads.length == 0) = b
  generalize inR r.Val (-1000000) 1000000 = c
  generalize inR r.Code 0 3 = d
  unfold bne
  cases d <;> cases c <;> cases (r.Code == 0) <;> cases (r.Val == 0) <;> cases a <;> cases (r.Code == 3) <;> cases b <;> rfl

/-! ### Two runs alike -/
def sameReads (a b : List TRead) (k : Nat) : Bool := match a[k]?, b[k]? with
  | some x, some y => ([x.Box, x.Ver] : List Int) == [y.Box, y.Ver]
  | _, _ => true
def samePuts (a b : List TPut) (k : Nat) : Bool := match a[k]?, b[k]? with
  | some x, some y => ([x.Box, x.Val] : List Int) == [y.Box, y.Val]
  | _, _ => true
theorem sameReadsS {a b : TRun} (h : Fits a.Reads) (hl : a.Reads.length = b.Reads.length) : loop (fun s : Int => spec_ExecSame_b2 a b s) 0 = some (bif (List.range a.Reads.length).all (sameReads a.Reads b.Reads) then .brk () else .ret false) := by
  refine alli_loop a.Reads h (sameReads a.Reads b.Reads) false () ?_ ?_
  · intro k hk _
    unfold spec_ExecSame_b2 sameReads
    rw [lt_len _ k hk, idx_lt hk, idx_lt (hl ▸ hk), List.getElem?_eq_getElem hk, List.getElem?_eq_getElem (hl ▸ hk)]
    simp only [cond_true, Option.bind_some]
    cases ([a.Reads[k].Box, a.Reads[k].Ver] : List Int) == [(b.Reads[k]'(hl ▸ hk)).Box, (b.Reads[k]'(hl ▸ hk)).Ver] <;> rfl
  · unfold spec_ExecSame_b2
    rw [nlt_len]; rfl
theorem samePutsS {a b : TRun} (h : Fits a.Puts) (hl : a.Puts.length = b.Puts.length) : loop (fun s : Int => spec_ExecSame_b1 a b s) 0 = some (bif (List.range a.Puts.length).all (samePuts a.Puts b.Puts) then .brk () else .ret false) := by
  refine alli_loop a.Puts h (samePuts a.Puts b.Puts) false () ?_ ?_
  · intro k hk _
    unfold spec_ExecSame_b1 samePuts
    rw [lt_len _ k hk, idx_lt hk, idx_lt (hl ▸ hk), List.getElem?_eq_getElem hk, List.getElem?_eq_getElem (hl ▸ hk)]
    simp only [cond_true, Option.bind_some]
    cases ([a.Puts[k].Box, a.Puts[k].Val] : List Int) == [(b.Puts[k]'(hl ▸ hk)).Box, (b.Puts[k]'(hl ▸ hk)).Val] <;> rfl
  · unfold spec_ExecSame_b1
    rw [nlt_len]; rfl
theorem sameReadI {a b : List TRead} (h : Fits a) : impl_same_Read a b = some (a.length == b.length && (List.range a.length).all (sameReads a b)) := by
  unfold impl_same_Read
  by_cases hl : a.length = b.length
  · rw [alli_loop a h (sameReads a b) false ()]
    · rw [hl]
      simp only [bne_self_eq_false, cond_false, beq_self_eq_true, Bool.true_and]
      cases (List.range b.length).all (sameReads a b) <;> rfl
    · intro k hk _
      unfold impl_same_Read_b1 sameReads
      rw [lt_len _ k hk, idx_lt hk, idx_lt (hl ▸ hk), List.getElem?_eq_getElem hk, List.getElem?_eq_getElem (hl ▸ hk)]
      simp only [cond_true, Option.bind_some]
      cases ([a[k].Box, a[k].Ver] : List Int) == [(b[k]'(hl ▸ hk)).Box, (b[k]'(hl ▸ hk)).Ver] <;> rfl
    · unfold impl_same_Read_b1
      rw [nlt_len]; rfl
  · have h1 : ((a.length : Int) != (b.length : Int)) = true := by simp; omega
    have h2 : (a.length == b.length) = false := by simpa using hl
    rw [h1, h2]; rfl
theorem samePutI {a b : List TPut} (h : Fits a) : impl_same_Put a b = some (a.length == b.length && (List.range a.length).all (samePuts a b)) := by
  unfold impl_same_Put
  by_cases hl : a.length = b.length
  · rw [alli_loop a h (samePuts a b) false ()]
    · rw [hl]
      simp only [bne_self_eq_false, cond_false, beq_self_eq_true, Bool.true_and]
      cases (List.range b.length).all (samePuts a b) <;> rfl
    · intro k hk _
      unfold impl_same_Put_b1 samePuts
      rw [lt_len _ k hk, idx_lt hk, idx_lt (hl ▸ hk), List.getElem?_eq_getElem hk, List.getElem?_eq_getElem (hl ▸ hk)]
      simp only [cond_true, Option.bind_some]
      cases ([a[k].Box, a[k].Val] : List Int) == [(b[k]'(hl ▸ hk)).Box, (b[k]'(hl ▸ hk)).Val] <;> rfl
    · unfold impl_same_Put_b1
      rw [nlt_len]; rfl
  · have h1 : ((a.length : Int) != (b.length : Int)) = true := by simp; omega
    have h2 : (a.length == b.length) = false := by simpa using hl
    rw [h1, h2]; rfl
def sameRun (a b : TRun) : Bool := (a.Reads.length == b.Reads.length && (List.range a.Reads.length).all (sameReads a.Reads b.Reads)) && ((a.Puts.length == b.Puts.length && (List.range a.Puts.length).all (samePuts a.Puts b.Puts)) && (a.Val == b.Val && a.Code == b.Code))
theorem len_bne {α β : Type} (a : List α) (b : List β) : ((a.length : Int) != (b.length : Int)) = !(a.length == b.length) := by
  unfold bne
  congr 1
  by_cases h : a.length = b.length
  · simp [h]
  · have h1 : ((a.length : Int) == (b.length : Int)) = false := by simp; omega
    have h2 : (a.length == b.length) = false := by simpa using h
    rw [h1, h2]
theorem specSame_eq {a b : TRun} (h : fRun a) : spec_ExecSame a b = some (sameRun a b) := by
  unfold spec_ExecSame sameRun
  rw [len_bne, len_bne]
  cases h1 : a.Reads.length == b.Reads.length
  · unfold bne
    cases a.Val == b.Val <;> cases a.Code == b.Code <;> rfl
  cases h2 : a.Puts.length == b.Puts.length
  · unfold bne
    cases a.Val == b.Val <;> cases a.Code == b.Code <;> simp
  unfold spec_ExecSame_k5
  rw [sameReadsS (h.1.fits (by decide)) (by simpa using h1), samePutsS (h.2.1.fits (by decide)) (by simpa using h2)]
  unfold bne
  cases (List.range a.Reads.length).all (sameReads a.Reads b.Reads) <;> cases (List.range a.Puts.length).all (samePuts a.Puts b.Puts) <;> cases a.Val == b.Val <;> cases a.Code == b.Code <;> rfl
theorem implSame_eq {a b : TRun} (h : fRun a) : impl_ExecSame a b = some (sameRun a b) := by
  unfold impl_ExecSame sameRun
  rw [sameReadI (h.1.fits (by decide)), samePutI (h.2.1.fits (by decide))]
  simp only [Option.bind_some]
  generalize (a.Reads.length == b.Reads.length && (List.range a.Reads.length).all (sameReads a.Reads b.Reads)) = x
  generalize (a.Puts.length == b.Puts.length && (List.range a.Puts.length).all (samePuts a.Puts b.Puts)) = y
  cases x <;> cases y <;> cases a.Val == b.Val <;> rfl

/-! ### Entries -/
def entryOk (e : TEntry) : Bool := bif e.None then (([e.Req.Who, e.Req.Seq] : List Int) == [0, 0]) && sameRun e.Run (TRun.mk [] [] 0 0) else (inR e.Req.Who 0 2 && inR e.Req.Seq 1 1000) && (runOk e.Run && e.Run.Code != 3)
theorem specEntry_eq {e : TEntry} (h : fEntry e) : spec_CertEntry e = some (entryOk e) := by
  unfold spec_CertEntry entryOk
  simp only [specSame_eq h.2, l5Req_eq, specOk_eq h.2, Option.bind_some]
  cases e.None
  · simp only [cond_false]
    cases inR e.Req.Who 0 2 && inR e.Req.Seq 1 1000 <;> cases runOk e.Run <;> rfl
  · simp only [cond_true]
    cases ([e.Req.Who, e.Req.Seq] : List Int) == [0, 0] <;> rfl
theorem implEntry_eq {e : TEntry} (h : fEntry e) : impl_CertEntry e = some (entryOk e) := by
  unfold impl_CertEntry impl_CertLike entryOk
  simp only [implSame_eq h.2, reqOk_eq, implOk_eq h.2, Option.bind_some]
  cases e.None
  · simp only [cond_false]
    cases inR e.Req.Who 0 2 && inR e.Req.Seq 1 1000 <;> cases runOk e.Run <;> rfl
  · simp only [cond_true, beq_self_eq_true]
    cases ([e.Req.Who, e.Req.Seq] : List Int) == [0, 0] <;> rfl
def listOk (l : List TEntry) : Bool := decide (l.length ≤ 40) && l.all entryOk
theorem len_le {α : Type} (l : List α) (n : Nat) : decide ((l.length : Int) ≤ (n : Int)) = decide (l.length ≤ n) := by
  by_cases h : l.length ≤ n
  · have : (l.length : Int) ≤ (n : Int) := by omega
    simp [h, this]
  · have : ¬ (l.length : Int) ≤ (n : Int) := by omega
    simp [h, this]
theorem len_gt_n {α : Type} (l : List α) (n : Nat) : decide ((l.length : Int) > (n : Int)) = !decide (l.length ≤ n) := by
  by_cases h : l.length ≤ n
  · have : ¬ (l.length : Int) > (n : Int) := by omega
    simp [h, this]
  · have : (l.length : Int) > (n : Int) := by omega
    simp [h, this]
theorem specList_eq {l : List TEntry} (h : okL 88 fEntry l) : spec_l8Known l = some (listOk l) := by
  unfold spec_l8Known listOk
  rw [show (40 : Int) = ((40 : Nat) : Int) from rfl, len_gt_n, all_loop l (h.fits (by decide)) entryOk false ()]
  · cases decide (l.length ≤ 40)
    · rfl
    · cases l.all entryOk <;> rfl
  · intro k hk
    unfold spec_l8Known_b1
    rw [lt_len _ k hk, idx_lt hk]
    simp only [cond_true, Option.bind_some, specEntry_eq (h.2 _ (List.getElem_mem hk))]
    cases entryOk l[k] <;> rfl
  · unfold spec_l8Known_b1
    rw [nlt_len]; rfl
theorem implList_eq {l : List TEntry} (h : okL 88 fEntry l) : impl_listOk l = some (listOk l) := by
  unfold impl_listOk listOk impl_listOk_k2
  rw [show (40 : Int) = ((40 : Nat) : Int) from rfl, len_le, all_loop l (h.fits (by decide)) entryOk false ()]
  · cases l.all entryOk <;> cases decide (l.length ≤ 40) <;> rfl
  · intro k hk
    unfold impl_listOk_b1
    rw [lt_len _ k hk, idx_lt hk]
    simp only [cond_true, Option.bind_some, implEntry_eq (h.2 _ (List.getElem_mem hk))]
    cases entryOk l[k] <;> rfl
  · unfold impl_listOk_b1
    rw [nlt_len]; rfl
end Go.Proofs.Ythefcgmhjonopaa
