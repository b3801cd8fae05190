/- What there is behind entries: the last requests, and an entry done on either side. -/
import Derived.Test.YthefcgmhjonopaaH2
set_option linter.unusedVariables false
set_option linter.unusedSimpArgs false
namespace Go.Proofs.Ythefcgmhjonopaa
open Go

/-! ### The last requests -/
def doneOk (d : TDone) : Bool := (inR d.Req.Who 0 2 && inR d.Req.Seq 1 1000) && (inR d.Code 0 2 && (inR d.Val (-1000000) 1000000 && (d.Code == 0 || d.Val == 0)))
def Sorted (l : List TDone) : Prop := l.Pairwise fun a b => a.Req.Who < b.Req.Who
def putStep (d : TDone) (st : List TDone × Bool) (x : TDone) : List TDone × Bool :=
  bif !st.2 && decide (x.Req.Who ≥ d.Req.Who) then (bif x.Req.Who != d.Req.Who then (st.1 ++ [d]) ++ [x] else st.1 ++ [d], true) else (bif x.Req.Who != d.Req.Who then st.1 ++ [x] else st.1, st.2)
def putDone (l : List TDone) (d : TDone) : List TDone :=
  let r := l.foldl (putStep d) ([], false)
  bif !r.2 then r.1 ++ [d] else r.1
theorem putStep_len (d : TDone) (st : List TDone × Bool) (x : TDone) : (putStep d st x).1.length ≤ st.1.length + 2 := by
  unfold putStep
  cases !st.2 && decide (x.Req.Who ≥ d.Req.Who) <;> cases x.Req.Who != d.Req.Who <;> simp
theorem putFold_len (d : TDone) : ∀ (l : List TDone) (st : List TDone × Bool), (l.foldl (putStep d) st).1.length ≤ st.1.length + 2 * l.length
  | [], st => by simp
  | x :: l, st => by
    have h1 := putFold_len d l (putStep d st x)
    have h2 := putStep_len d st x
    simp only [List.foldl_cons, List.length_cons]
    omega
theorem putAfter (d : TDone) : ∀ {l : List TDone} {o : List TDone}, (∀ x ∈ l, d.Req.Who < x.Req.Who) → l.foldl (putStep d) (o, true) = (o ++ l, true)
  | [], o, _ => by simp
  | x :: l, o, h => by
    have hx := h x (by simp)
    have hne : (x.Req.Who != d.Req.Who) = true := by simp; omega
    rw [List.foldl_cons, show putStep d (o, true) x = (o ++ [x], true) from by unfold putStep; simp [hne], putAfter d fun y hy => h y (by simp [hy])]
    simp
theorem putDone_cons (d : TDone) : ∀ {l o : List TDone}, Sorted l →
    (let r := l.foldl (putStep d) (o, false); bif !r.2 then r.1 ++ [d] else r.1) = o ++ (l.filter (fun x => decide (x.Req.Who < d.Req.Who)) ++ d :: l.filter (fun x => decide (d.Req.Who < x.Req.Who)))
  | [], o, _ => by simp
  | x :: l, o, h => by
    obtain ⟨h1, h2⟩ := List.pairwise_cons.1 h
    rw [List.foldl_cons]
    by_cases hlt : x.Req.Who < d.Req.Who
    · have hge : ¬ x.Req.Who ≥ d.Req.Who := by omega
      have hne : (x.Req.Who != d.Req.Who) = true := by simp; omega
      have hngt : ¬ d.Req.Who < x.Req.Who := by omega
      rw [show putStep d (o, false) x = (o ++ [x], false) from by unfold putStep; simp [hge, hne], putDone_cons d h2]
      simp [hlt, hngt]
    · have hge : x.Req.Who ≥ d.Req.Who := by omega
      have hall : ∀ y ∈ l, d.Req.Who < y.Req.Who := fun y hy => by have := h1 y hy; omega
      have hf1 : l.filter (fun x => decide (x.Req.Who < d.Req.Who)) = [] := by
        rw [List.filter_eq_nil_iff]
        intro y hy
        have := hall y hy
        simp
        omega
      have hf2 : l.filter (fun x => decide (d.Req.Who < x.Req.Who)) = l := by
        rw [List.filter_eq_self]
        intro y hy
        simpa using hall y hy
      by_cases heq : x.Req.Who = d.Req.Who
      · have hngt : ¬ d.Req.Who < x.Req.Who := by omega
        rw [show putStep d (o, false) x = (o ++ [d], true) from by unfold putStep; simp [hge, heq], putAfter d hall]
        simp [hlt, hngt, hf1, hf2]
      · have hgt : d.Req.Who < x.Req.Who := by omega
        have hne : (x.Req.Who != d.Req.Who) = true := by simpa using heq
        rw [show putStep d (o, false) x = ((o ++ [d]) ++ [x], true) from by unfold putStep; simp [hge, hne], putAfter d hall]
        simp [hlt, hgt, hf1, hf2]
theorem putDone_eq {l : List TDone} (d : TDone) (h : Sorted l) : putDone l d = l.filter (fun x => decide (x.Req.Who < d.Req.Who)) ++ d :: l.filter (fun x => decide (d.Req.Who < x.Req.Who)) := by
  have := putDone_cons d (o := []) h
  simpa [putDone] using this
theorem putDone_sorted {l : List TDone} (d : TDone) (h : Sorted l) : Sorted (putDone l d) := by
  rw [putDone_eq d h]
  unfold Sorted
  rw [List.pairwise_append, List.pairwise_cons]
  refine ⟨h.filter _, ⟨fun y hy => by simpa using (List.mem_filter.1 hy).2, h.filter _⟩, fun a ha b hb => ?_⟩
  have h1 : a.Req.Who < d.Req.Who := by simpa using (List.mem_filter.1 ha).2
  rcases List.mem_cons.1 hb with rfl | hb
  · exact h1
  · have h2 : d.Req.Who < b.Req.Who := by simpa using (List.mem_filter.1 hb).2
    omega
theorem putDone_mem {l : List TDone} {d x : TDone} (h : Sorted l) (hx : x ∈ putDone l d) : x ∈ l ∨ x = d := by
  rw [putDone_eq d h] at hx
  rcases List.mem_append.1 hx with hx | hx
  · exact .inl (List.mem_filter.1 hx).1
  · rcases List.mem_cons.1 hx with rfl | hx
    · exact .inr rfl
    · exact .inl (List.mem_filter.1 hx).1
theorem putDone_len {l : List TDone} (d : TDone) (h : Sorted l) : (putDone l d).length ≤ l.length + 1 := by
  rw [putDone_eq d h]
  have : (l.filter fun x => decide (x.Req.Who < d.Req.Who)).length + (l.filter fun x => decide (d.Req.Who < x.Req.Who)).length ≤ l.length := by
    clear h
    induction l with
    | nil => simp
    | cons x l ih =>
      by_cases h1 : x.Req.Who < d.Req.Who
      · have h2 : ¬ d.Req.Who < x.Req.Who := by omega
        simp [h1, h2]; omega
      · by_cases h2 : d.Req.Who < x.Req.Who
        · simp [h1, h2]; omega
        · simp [h1, h2]; omega
  simp only [List.length_append, List.length_cons]
  omega

/-- What there is behind k entries. -/
structure Inv (s : TState) (k : Nat) : Prop where
  at_ : s.At = (k : Int)
  le : k ≤ 40
  boxes : boxesOk s.Boxes = true
  sorted : Sorted s.Dones
  dones : ∀ d ∈ s.Dones, doneOk d = true
  len : s.Dones.length ≤ k
theorem Inv.fits {s : TState} {k : Nat} (h : Inv s k) : Fits s.Dones := by
  have := h.len
  have := h.le
  unfold Fits
  omega

theorem app1_fits {α : Type} {o : List α} {d : α} (h : o.length ≤ 80) : ((o ++ [d]).length + 1) * 32 ≤ 140737488355328 := by
  rw [show (o ++ [d]).length = o.length + 1 from by simp]
  omega
theorem specPut_eq {l : List TDone} {d : TDone} (hl : l.length ≤ 40) : spec_l5Put l d = some (putDone l d) := by
  have hf : Fits l := by unfold Fits; omega
  have hlen : ∀ k, k ≤ l.length → ((l.take k).foldl (putStep d) ([], false)).1.length ≤ 80 := by
    intro k hk
    have := putFold_len d (l.take k) ([], false)
    simp only [List.length_nil, List.length_take] at this
    omega
  unfold spec_l5Put
  have hloop := loop_to (body := fun s : (List TDone) × Bool × Int => spec_l5Put_b1 l d s.1 s.2.1 s.2.2) (fun k => (((l.take k).foldl (putStep d) ([], false)).1, ((l.take k).foldl (putStep d) ([], false)).2, (k : Int))) l.length (by
    intro k hk
    have hb := hlen k (by omega)
    rw [List.take_succ_eq_append_getElem hk, List.foldl_append]
    generalize (l.take k).foldl (putStep d) ([], false) = st at hb
    obtain ⟨o, i⟩ := st
    simp only at hb
    simp only [List.foldl_cons, List.foldl_nil]
    unfold spec_l5Put_b1 spec_l5Put_j3 spec_l5Put_j2 putStep
    rw [lt_len _ k hk, idx_lt hk, w64_next hf hk]
    have n1 : (o.length + 1) * 32 ≤ 140737488355328 := by omega
    have n2 : ((o ++ [d]).length + 1) * 32 ≤ 140737488355328 := app1_fits (by omega)
    cases i <;> cases h1 : decide (l[k].Req.Who ≥ d.Req.Who) <;> cases h2 : l[k].Req.Who != d.Req.Who <;> simp only [h1, h2, need_pos n1, need_pos n2, cond_true, cond_false, Option.bind_some, Exc.go, Bool.not_true, Bool.not_false, Bool.true_and, Bool.false_and])
  simp only [List.take_zero, List.foldl_nil, List.take_length] at hloop
  rw [show ((0 : Nat) : Int) = 0 from rfl] at hloop
  rw [hloop, loop_brk (b := l.foldl (putStep d) ([], false))]
  · have hb := hlen l.length (Nat.le_refl _)
    rw [List.take_length] at hb
    unfold spec_l5Put_k3 spec_l5Put_j1 putDone
    generalize l.foldl (putStep d) ([], false) = st at hb
    obtain ⟨o, i⟩ := st
    have n1 : (o.length + 1) * 32 ≤ 140737488355328 := by simp only at hb; omega
    cases i <;> simp only [need_pos n1, cond_true, cond_false, Option.bind_some, Exc.go, Bool.not_true, Bool.not_false]
  · unfold spec_l5Put_b1
    rw [nlt_len]; rfl

/-! ### An entry done -/
def applyFresh (s : TState) (e : TEntry) : TState × Int :=
  bif fresh s.Boxes e.Run then
    (bif e.Run.Code == 0 then (⟨s.At + 1, doPuts s.Boxes e.Run.Puts, putDone s.Dones ⟨e.Req, 0, e.Run.Val⟩⟩, 0)
    else (⟨s.At + 1, s.Boxes, putDone s.Dones ⟨e.Req, 2, 0⟩⟩, 2))
  else (⟨s.At + 1, s.Boxes, putDone s.Dones ⟨e.Req, 1, 0⟩⟩, 1)
def apply (s : TState) (e : TEntry) : TState × Int :=
  bif e.None then (⟨s.At + 1, s.Boxes, s.Dones⟩, 5) else
  match s.Dones.find? (fun d => d.Req.Who == e.Req.Who) with
  | some d => bif d.Req.Seq == e.Req.Seq then (⟨s.At + 1, s.Boxes, s.Dones⟩, 3) else bif decide (d.Req.Seq > e.Req.Seq) then (⟨s.At + 1, s.Boxes, s.Dones⟩, 4) else applyFresh s e
  | none => applyFresh s e
theorem entryOk_some {e : TEntry} (h : entryOk e = true) (hn : e.None = false) : (0 ≤ e.Req.Who ∧ e.Req.Who ≤ 2) ∧ (1 ≤ e.Req.Seq ∧ e.Req.Seq ≤ 1000) ∧ runOk e.Run = true ∧ e.Run.Code ≠ 3 := by
  unfold entryOk at h
  rw [hn] at h
  simp [inR] at h
  exact ⟨h.1.1, h.1.2, h.2.1, h.2.2⟩
theorem specLast_eq {s : TState} (h : Fits s.Dones) (who : Int) : spec_l5Last s who = some (match s.Dones.find? (fun d => d.Req.Who == who) with | some d => (d, true) | none => (⟨⟨0, 0⟩, 0, 0⟩, false)) := by
  unfold spec_l5Last
  rw [find_loop s.Dones h (fun d => d.Req.Who == who) (fun d => (d, true)) ()]
  · cases s.Dones.find? fun d => d.Req.Who == who <;> rfl
  · intro k hk
    unfold spec_l5Last_b1
    rw [lt_len _ k hk, idx_lt hk]
    simp only [cond_true, Option.bind_some]
    cases s.Dones[k].Req.Who == who <;> rfl
  · unfold spec_l5Last_b1
    rw [nlt_len]; rfl
theorem specApply_eq {s : TState} {k : Nat} {e : TEntry} (hs : Inv s k) (hk : k < 40) (he : entryOk e = true) (hf : fEntry e) : spec_l5Apply s e = some (apply s e) := by
  have hw : w64 (s.At + 1) = s.At + 1 := by rw [hs.at_]; exact w64_in (by omega) (by omega)
  unfold spec_l5Apply apply
  rw [hw, specLast_eq (s := ⟨s.At + 1, s.Boxes, s.Dones⟩) hs.fits]
  cases hn : e.None
  case true => rfl
  obtain ⟨_, _, hr, hc3⟩ := entryOk_some he hn
  have hp : ∀ p ∈ e.Run.Puts, putFine p := (runOk_parts hr).2.2.2.2
  have hfr : spec_l5Apply_j3 s e = some (applyFresh s e) := by
    unfold spec_l5Apply_j3 spec_l5Apply_j2 spec_l5Apply_j1 applyFresh
    simp only [specFresh_eq (boxesOk_fits hs.boxes) hf.2, hs.boxes, hr, Bool.true_and, Option.bind_some, hw, specPut_eq (Nat.le_trans hs.len (by omega)), specDo_eq hs.boxes hf.2 hp]
    cases fresh s.Boxes e.Run
    · rfl
    · cases e.Run.Code == 0 <;> rfl
  simp only [cond_false, Option.bind_some, hfr]
  cases hfd : s.Dones.find? fun d => d.Req.Who == e.Req.Who with
  | none => rfl
  | some d =>
    have hwho : d.Req.Who = e.Req.Who := by simpa using List.find?_some hfd
    have hq : (([d.Req.Who, d.Req.Seq] : List Int) == [e.Req.Who, e.Req.Seq]) = (d.Req.Seq == e.Req.Seq) := by
      rw [hwho]; simp
    simp only [hq, cond_true]
    cases d.Req.Seq == e.Req.Seq
    · cases decide (d.Req.Seq > e.Req.Seq) <;> rfl
    · rfl
theorem find_seq {l : List TDone} (h : Sorted l) (who seq : Int) : l.find? (fun d => d.Req.Who == who && decide (d.Req.Seq ≥ seq)) = match l.find? (fun d => d.Req.Who == who) with
    | some d => bif decide (d.Req.Seq ≥ seq) then some d else none
    | none => none := by
  induction l with
  | nil => rfl
  | cons x l ih =>
    obtain ⟨h1, h2⟩ := List.pairwise_cons.1 h
    rw [List.find?_cons, List.find?_cons]
    cases hx : x.Req.Who == who with
    | false => simpa using ih h2
    | true =>
      cases hs : decide (x.Req.Seq ≥ seq) with
      | true => simp [hs]
      | false =>
        simp only [Bool.and_false, hs, cond_false]
        rw [List.find?_eq_none]
        intro y hy
        have := h1 y hy
        have hx' : x.Req.Who = who := by simpa using hx
        simp
        intro hyw
        omega
theorem implCertOk_eq {s : TState} {k : Nat} (hs : Inv s k) : impl_CertOk s = some true := by
  unfold impl_CertOk
  have hloop := loop_to (body := fun v : Int => impl_CertOk_b1 s v) (fun j => (j : Int)) s.Dones.length (by
    intro j hj
    have hd := hs.dones _ (List.getElem_mem hj)
    unfold doneOk at hd
    simp only [Bool.and_eq_true, Bool.or_eq_true] at hd
    obtain ⟨⟨d1, d2⟩, d3, d4, d5⟩ := hd
    unfold impl_CertOk_b1 impl_CertOk_j1
    rw [lt_len _ j hj, idx_lt hj, w64_next hs.fits hj]
    simp only [cond_true, Option.bind_some, reqOk_eq, in_eq, d1, d2, d3, d4, Bool.and_true, Bool.not_true, cond_false]
    cases j with
    | zero =>
      rw [show decide (((0 : Nat) : Int) > 0) = false from by decide]
      simp only [cond_false]
      unfold bne
      rcases d5 with d5 | d5 <;> simp [d5, Exc.go, Option.bind]
    | succ j =>
      have hlt : (s.Dones[j]'(by omega)).Req.Who < s.Dones[j + 1].Req.Who := List.pairwise_iff_getElem.1 hs.sorted j (j + 1) (by omega) hj (by omega)
      have hge : ¬ (s.Dones[j]'(by omega)).Req.Who ≥ s.Dones[j + 1].Req.Who := by omega
      have hle := hs.fits
      unfold Fits at hle
      rw [show w64 (((j + 1 : Nat) : Int) - 1) = (j : Int) from by rw [w64_in (by omega) (by omega)]; omega, idx_lt (show j < s.Dones.length by omega)]
      have hpos : decide (((j + 1 : Nat) : Int) > 0) = true := by simp
      simp only [hpos, cond_true, Option.bind_some, hge, decide_false, cond_false]
      unfold bne
      rcases d5 with d5 | d5 <;> simp [d5, Exc.go, Option.bind])
  rw [show ((0 : Nat) : Int) = 0 from rfl] at hloop
  rw [hloop, loop_brk (b := ())]
  · unfold impl_CertOk_k2
    have := hs.le
    have ha : inR s.At 0 40 = true := by rw [hs.at_]; simp [inR]; omega
    simp [Exc.go, in_eq, ha, implBoxOk_eq (boxesOk_fits hs.boxes), hs.boxes]
  · unfold impl_CertOk_b1
    rw [nlt_len]; rfl
theorem implPut_eq {s : TState} {own : TDone} {bx : List TBox} (hl : s.Dones.length ≤ 40) (hw : w64 (s.At + 1) = s.At + 1) (hd : Sorted s.Dones) : impl_CertApply_j4 s own bx = some (⟨s.At + 1, bx, putDone s.Dones own⟩, own.Code) := by
  have hf : Fits s.Dones := by unfold Fits; omega
  have hlen : ∀ k, k ≤ s.Dones.length → ((s.Dones.take k).foldl (putStep own) ([], false)).1.length ≤ 80 := by
    intro k hk
    have := putFold_len own (s.Dones.take k) ([], false)
    simp only [List.length_nil, List.length_take] at this
    omega
  unfold impl_CertApply_j4
  have hloop := loop_to (body := fun x : (List TDone) × Int × Bool => impl_CertApply_b1 s own x.1 x.2.1 x.2.2) (fun k => (((s.Dones.take k).foldl (putStep own) ([], false)).1, (k : Int), ((s.Dones.take k).foldl (putStep own) ([], false)).2)) s.Dones.length (by
    intro k hk
    have hb := hlen k (by omega)
    rw [List.take_succ_eq_append_getElem hk, List.foldl_append]
    generalize (s.Dones.take k).foldl (putStep own) ([], false) = st at hb
    obtain ⟨o, i⟩ := st
    simp only at hb
    simp only [List.foldl_cons, List.foldl_nil]
    unfold impl_CertApply_b1 impl_CertApply_j3 impl_CertApply_j2 putStep
    rw [lt_len _ k hk, idx_lt hk, w64_next hf hk]
    have n1 : (o.length + 1) * 32 ≤ 140737488355328 := by omega
    have n2 : ((o ++ [own]).length + 1) * 32 ≤ 140737488355328 := app1_fits (by omega)
    cases i <;> cases h1 : decide (s.Dones[k].Req.Who ≥ own.Req.Who) <;> cases h2 : s.Dones[k].Req.Who != own.Req.Who <;> simp only [h1, h2, need_pos n1, need_pos n2, cond_true, cond_false, Option.bind_some, Exc.go, Bool.not_true, Bool.not_false, Bool.true_and, Bool.false_and])
  simp only [List.take_zero, List.foldl_nil, List.take_length] at hloop
  rw [show ((0 : Nat) : Int) = 0 from rfl] at hloop
  rw [hloop, loop_brk (b := s.Dones.foldl (putStep own) ([], false))]
  · have hb := hlen s.Dones.length (Nat.le_refl _)
    rw [List.take_length] at hb
    have hpl := putDone_len own hd
    have hcp : impl_copied_Done (putDone s.Dones own) = some (putDone s.Dones own) := copiedDone_eq (by omega)
    unfold impl_CertApply_k5 impl_CertApply_j1
    unfold putDone at hcp ⊢
    generalize s.Dones.foldl (putStep own) ([], false) = st at hb hcp
    obtain ⟨o, i⟩ := st
    have n1 : (o.length + 1) * 32 ≤ 140737488355328 := by simp only at hb; omega
    cases i <;> simp only [need_pos n1, cond_true, cond_false, Option.bind_some, Exc.go, Bool.not_true, Bool.not_false, hw] at hcp ⊢ <;> rw [hcp] <;> rfl
  · unfold impl_CertApply_b1
    rw [nlt_len]; rfl
theorem implApply_eq {s : TState} {k : Nat} {e : TEntry} (hs : Inv s k) (hk : k < 40) (he : entryOk e = true) (hf : fEntry e) : impl_CertApply s e = some (apply s e) := by
  have hw : w64 (s.At + 1) = s.At + 1 := by rw [hs.at_]; exact w64_in (by omega) (by omega)
  have hl := hs.len
  have hcd : impl_copied_Done s.Dones = some s.Dones := copiedDone_eq (by omega)
  have hcb : impl_copied_Box s.Boxes = some s.Boxes := copiedBox_eq (by rw [boxesOk_len hs.boxes]; decide)
  have hat : (s.At == 40) = false := by rw [hs.at_]; simp; omega
  unfold impl_CertApply apply
  rw [implCertOk_eq hs, implEntry_eq hf, he]
  simp only [Option.bind_some, Bool.not_true, cond_false, hat, hcb, hcd, hw]
  cases hn : e.None
  case true => rfl
  obtain ⟨_, _, hr, hc3⟩ := entryOk_some he hn
  have hfr : impl_CertApply_k9 s e s.Boxes = some (applyFresh s e) := by
    unfold impl_CertApply_k9 applyFresh
    simp only [implFresh_eq (boxesOk_fits hs.boxes) hf.2, hs.boxes, hr, Bool.true_and, Option.bind_some, implDo_eq hs.boxes hf.2 hr]
    cases fresh s.Boxes e.Run
    · simp only [Bool.not_false, cond_true, cond_false, Option.bind_some, Exc.go]
      exact implPut_eq (by omega) hw hs.sorted
    · unfold bne
      cases e.Run.Code == 0
      · simp only [Bool.not_false, Bool.not_true, cond_true, cond_false, Option.bind_some, Exc.go]
        exact implPut_eq (by omega) hw hs.sorted
      · simp only [Bool.not_true, cond_true, cond_false, Option.bind_some, Exc.go]
        exact implPut_eq (by omega) hw hs.sorted
  simp only [cond_false]
  rw [find_loop s.Dones hs.fits (fun d => d.Req.Who == e.Req.Who && decide (d.Req.Seq ≥ e.Req.Seq)) (fun d => (⟨s.At + 1, s.Boxes, s.Dones⟩, bif d.Req.Seq == e.Req.Seq then 3 else 4)) ()]
  · rw [find_seq hs.sorted]
    cases s.Dones.find? fun d => d.Req.Who == e.Req.Who with
    | none => simp only [Option.bind_some, Exc.go, hfr]
    | some d =>
      cases hq : d.Req.Seq == e.Req.Seq with
      | true =>
        have : d.Req.Seq ≥ e.Req.Seq := by
          have : d.Req.Seq = e.Req.Seq := by simpa using hq
          omega
        simp [this, Exc.go, hq]
      | false =>
        have hne : d.Req.Seq ≠ e.Req.Seq := by simpa using hq
        by_cases hg : d.Req.Seq > e.Req.Seq
        · have : d.Req.Seq ≥ e.Req.Seq := by omega
          simp [this, Exc.go, hg, hq]
        · have : ¬ d.Req.Seq ≥ e.Req.Seq := by omega
          simp [this, Exc.go, hg, hfr, hq]
  · intro j hj
    unfold impl_CertApply_b2 impl_CertApply_j5
    rw [lt_len _ j hj, idx_lt hj]
    simp only [cond_true, Option.bind_some, hcd, hw]
    cases h1 : s.Dones[j].Req.Who == e.Req.Who <;> cases h2 : decide (s.Dones[j].Req.Seq ≥ e.Req.Seq) <;> cases h3 : s.Dones[j].Req.Seq == e.Req.Seq <;> simp only [cond_true, cond_false, Option.bind_some, Exc.go, Bool.true_and, Bool.false_and, Bool.and_true, Bool.and_false]
  · unfold impl_CertApply_b2
    rw [nlt_len]; rfl

theorem applyFresh_inv {s : TState} {k : Nat} {e : TEntry} (hs : Inv s k) (hk : k < 40) (he : entryOk e = true) (hn : e.None = false) : Inv (applyFresh s e).1 (k + 1) ∧ 0 ≤ (applyFresh s e).2 ∧ (applyFresh s e).2 ≤ 5 := by
  obtain ⟨h1, h2, hr, hc3⟩ := entryOk_some he hn
  have hp := runOk_parts hr
  have hat : s.At + 1 = ((k + 1 : Nat) : Int) := by rw [hs.at_]; rfl
  have key : ∀ (bx : List TBox) (d : TDone), boxesOk bx = true → doneOk d = true → Inv ⟨s.At + 1, bx, putDone s.Dones d⟩ (k + 1) := fun bx d hb hd =>
    { at_ := hat, le := by omega, boxes := hb, sorted := putDone_sorted d hs.sorted
      dones := fun x hx => by
        rcases putDone_mem hs.sorted hx with hx | rfl
        · exact hs.dones x hx
        · exact hd
      len := by
        have := putDone_len d hs.sorted
        have := hs.len
        simp only
        omega }
  have hd0 : ∀ c : Int, 0 ≤ c → c ≤ 2 → doneOk ⟨e.Req, c, 0⟩ = true := by
    intro c c1 c2
    unfold doneOk inR
    simp
    omega
  have hd1 : doneOk ⟨e.Req, 0, e.Run.Val⟩ = true := by
    unfold doneOk inR
    simp
    omega
  unfold applyFresh
  cases fresh s.Boxes e.Run
  · exact ⟨key _ _ hs.boxes (hd0 1 (by decide) (by decide)), show (0 : Int) ≤ 1 from by decide, show (1 : Int) ≤ 5 from by decide⟩
  · cases e.Run.Code == 0
    · exact ⟨key _ _ hs.boxes (hd0 2 (by decide) (by decide)), show (0 : Int) ≤ 2 from by decide, show (2 : Int) ≤ 5 from by decide⟩
    · exact ⟨key _ _ (doPuts_ok hs.boxes hp.2.2.2.2) hd1, show (0 : Int) ≤ 0 from by decide, show (0 : Int) ≤ 5 from by decide⟩
theorem apply_inv {s : TState} {k : Nat} {e : TEntry} (hs : Inv s k) (hk : k < 40) (he : entryOk e = true) : Inv (apply s e).1 (k + 1) ∧ 0 ≤ (apply s e).2 ∧ (apply s e).2 ≤ 5 := by
  have hat : s.At + 1 = ((k + 1 : Nat) : Int) := by rw [hs.at_]; rfl
  have key : Inv ⟨s.At + 1, s.Boxes, s.Dones⟩ (k + 1) := { at_ := hat, le := by omega, boxes := hs.boxes, sorted := hs.sorted, dones := hs.dones, len := Nat.le_succ_of_le hs.len }
  unfold apply
  cases hn : e.None
  · have hfr := applyFresh_inv hs hk he hn
    simp only [cond_false]
    cases s.Dones.find? fun d => d.Req.Who == e.Req.Who with
    | none => exact hfr
    | some d =>
      simp only
      cases d.Req.Seq == e.Req.Seq
      · cases decide (d.Req.Seq > e.Req.Seq)
        · exact hfr
        · exact ⟨key, show (0 : Int) ≤ 4 from by decide, show (4 : Int) ≤ 5 from by decide⟩
      · exact ⟨key, show (0 : Int) ≤ 3 from by decide, show (3 : Int) ≤ 5 from by decide⟩
  · exact ⟨key, show (0 : Int) ≤ 5 from by decide, show (5 : Int) ≤ 5 from by decide⟩

/-! ### All entries, one behind the other -/
def start : TState := ⟨0, List.replicate 4 ⟨0, 0⟩, []⟩
theorem start_inv : Inv start 0 := { at_ := rfl, le := by omega, boxes := by decide, sorted := .nil, dones := by simp [start], len := by simp [start] }
theorem specOpen_eq : spec_CertOpen = some start := by
  unfold spec_CertOpen spec_BoxOpen
  rw [need_pos (by decide)]
  rfl
theorem implOpen_eq : impl_CertOpen = some start := by
  unfold impl_CertOpen impl_BoxOpen
  rw [need_pos (by decide)]
  rfl
def foldStep (st : TState × List Int) (e : TEntry) : TState × List Int := ((apply st.1 e).1, st.2 ++ [(apply st.1 e).2])
def folded (l : List TEntry) : TState × List Int := l.foldl foldStep (start, [])
theorem folded_take {l : List TEntry} {k : Nat} (hk : k < l.length) : folded (l.take (k + 1)) = foldStep (folded (l.take k)) l[k] := by
  unfold folded
  rw [List.take_succ_eq_append_getElem hk, List.foldl_append]
  rfl
theorem folded_inv {l : List TEntry} (hl : l.length ≤ 40) (he : l.all entryOk = true) : ∀ k, k ≤ l.length → Inv (folded (l.take k)).1 k ∧ (folded (l.take k)).2.length = k ∧ ∀ c ∈ (folded (l.take k)).2, 0 ≤ c ∧ c ≤ 5
  | 0, _ => by
    rw [List.take_zero]
    exact ⟨start_inv, rfl, by simp [folded]⟩
  | k + 1, hk => by
    obtain ⟨h1, h2, h3⟩ := folded_inv hl he k (by omega)
    have ha := apply_inv h1 (by omega) (List.all_eq_true.1 he _ (List.getElem_mem (show k < l.length by omega)))
    rw [folded_take (show k < l.length by omega)]
    refine ⟨ha.1, by simp [foldStep, h2], fun c hc => ?_⟩
    unfold foldStep at hc
    rcases List.mem_append.1 hc with hc | hc
    · exact h3 c hc
    · rw [List.mem_singleton] at hc
      rw [hc]
      exact ha.2
theorem listOk_parts {l : List TEntry} (h : listOk l = true) : l.length ≤ 40 ∧ l.all entryOk = true := by
  unfold listOk at h
  simpa using h
theorem specCodes_eq {l : List TEntry} (h : okL 88 fEntry l) (hl : l.length ≤ 40) (he : l.all entryOk = true) : spec_l13Codes l = some (folded l).2 := by
  have hf : Fits l := h.fits (by decide)
  unfold spec_l13Codes
  rw [specOpen_eq, Option.bind_some]
  have hloop := loop_to (body := fun s : (List Int) × (List TBox) × Int × Int × List TDone => spec_l13Codes_b1 l s.1 s.2.1 s.2.2.1 s.2.2.2.1 s.2.2.2.2) (fun k => ((folded (l.take k)).2, (folded (l.take k)).1.Boxes, (k : Int), (folded (l.take k)).1.At, (folded (l.take k)).1.Dones)) l.length (by
    intro k hk
    obtain ⟨h1, h2, h3⟩ := folded_inv hl he k (by omega)
    have n1 : ((folded (l.take k)).2.length + 1) * 8 ≤ 140737488355328 := by rw [h2]; omega
    rw [folded_take hk]
    unfold spec_l13Codes_b1
    rw [lt_len _ k hk, idx_lt hk, w64_next hf hk]
    simp only [cond_true, Option.bind_some]
    rw [show (⟨(folded (l.take k)).1.At, (folded (l.take k)).1.Boxes, (folded (l.take k)).1.Dones⟩ : TState) = (folded (l.take k)).1 from rfl, specApply_eq h1 (by omega) (List.all_eq_true.1 he _ (List.getElem_mem hk)) (h.2 _ (List.getElem_mem hk)), Option.bind_some, need_pos n1]
    rfl)
  rw [List.take_zero, List.take_length] at hloop
  rw [show ((0 : Nat) : Int) = 0 from rfl] at hloop
  rw [show loop (fun s : (List Int) × (List TBox) × Int × Int × List TDone => spec_l13Codes_b1 l s.1 s.2.1 s.2.2.1 s.2.2.2.1 s.2.2.2.2) (([] : List Int), start.Boxes, 0, start.At, start.Dones) = _ from hloop, loop_brk (b := (folded l).2)]
  · rfl
  · unfold spec_l13Codes_b1
    rw [nlt_len]; rfl
theorem implFolded_eq {l : List TEntry} (h : okL 88 fEntry l) (hl : l.length ≤ 40) (he : l.all entryOk = true) : impl_folded l = some (folded l) := by
  have hf : Fits l := h.fits (by decide)
  unfold impl_folded
  rw [implOpen_eq, Option.bind_some]
  have hloop := loop_to (body := fun s : TState × (List Int) × Int => impl_folded_b1 l s.1 s.2.1 s.2.2) (fun k => ((folded (l.take k)).1, (folded (l.take k)).2, (k : Int))) l.length (by
    intro k hk
    obtain ⟨h1, h2, h3⟩ := folded_inv hl he k (by omega)
    have n1 : ((folded (l.take k)).2.length + 1) * 8 ≤ 140737488355328 := by rw [h2]; omega
    rw [folded_take hk]
    unfold impl_folded_b1
    rw [lt_len _ k hk, idx_lt hk, w64_next hf hk]
    simp only [cond_true, Option.bind_some]
    rw [implApply_eq h1 (by omega) (List.all_eq_true.1 he _ (List.getElem_mem hk)) (h.2 _ (List.getElem_mem hk)), Option.bind_some, need_pos n1]
    rfl)
  rw [List.take_zero, List.take_length] at hloop
  rw [show ((0 : Nat) : Int) = 0 from rfl] at hloop
  rw [show loop (fun s : TState × (List Int) × Int => impl_folded_b1 l s.1 s.2.1 s.2.2) (start, [], 0) = _ from hloop, loop_brk (b := folded l)]
  · rfl
  · unfold impl_folded_b1
    rw [nlt_len]; rfl
end Go.Proofs.Ythefcgmhjonopaa
