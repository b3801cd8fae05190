/- How entries end, counted; the requests that were done. -/
import Derived.Test.YthefcgmhjonopaaD0
set_option linter.unusedVariables false
set_option linter.unusedSimpArgs false
namespace Go.Proofs.Ythefcgmhjonopaa
open Go

def cnt (cs : List Int) (c : Int) : Int := ((cs.filter fun x => x == c).length : Int)
def counts (cs : List Int) : List Int := [cnt cs 0, cnt cs 1, cnt cs 2, cnt cs 3, cnt cs 4, cnt cs 5]
theorem cnt_snoc (cs : List Int) (c d : Int) : cnt (cs ++ [c]) d = cnt cs d + (if c = d then 1 else 0) := by
  unfold cnt
  rw [List.filter_append]
  by_cases h : c = d <;> simp [h]
theorem cnt_range (cs : List Int) (c : Int) : 0 ≤ cnt cs c ∧ cnt cs c ≤ cs.length := by
  unfold cnt
  have := List.length_filter_le (fun x => x == c) cs
  omega
theorem counts_at {cs : List Int} {c : Int} (h : 0 ≤ c ∧ c ≤ 5) : idx (counts cs) c = some (cnt cs c) := by
  have : c = 0 ∨ c = 1 ∨ c = 2 ∨ c = 3 ∨ c = 4 ∨ c = 5 := by omega
  rcases this with rfl | rfl | rfl | rfl | rfl | rfl <;> rfl
theorem counts_set {cs : List Int} {c : Int} (h : 0 ≤ c ∧ c ≤ 5) : (counts cs).set c.toNat (cnt cs c + 1) = counts (cs ++ [c]) := by
  unfold counts
  simp only [cnt_snoc]
  have : c = 0 ∨ c = 1 ∨ c = 2 ∨ c = 3 ∨ c = 4 ∨ c = 5 := by omega
  rcases this with rfl | rfl | rfl | rfl | rfl | rfl <;> simp
theorem counts_nil : counts [] = List.replicate (6 : Int).toNat 0 := rfl
def histCounts (l : List TEntry) : List Int := bif listOk l then counts (folded l).2 else List.replicate (6 : Int).toNat 0
/-! ### The requests that were done -/
def toldStep (l : List TEntry) (cs : List Int) (k : Nat) : List TReq := match cs[k]?, l[k]? with
  | some c, some e => bif c == 0 then [e.Req] else []
  | _, _ => []
def told (l : List TEntry) (cs : List Int) : Nat → List TReq
  | 0 => []
  | k + 1 => told l cs k ++ toldStep l cs k
theorem toldStep_at {l : List TEntry} {cs : List Int} {k : Nat} (h1 : k < l.length) (h2 : k < cs.length) : toldStep l cs k = bif cs[k] == 0 then [l[k].Req] else [] := by
  unfold toldStep
  rw [List.getElem?_eq_getElem h1, List.getElem?_eq_getElem h2]
theorem told_len {l : List TEntry} {cs : List Int} (hc : cs.length = l.length) : ∀ k, k ≤ l.length → ((told l cs k).length : Int) = cnt (cs.take k) 0
  | 0, _ => rfl
  | k + 1, hk => by
    have h1 : k < cs.length := by omega
    have ih := told_len hc k (by omega)
    unfold told
    rw [List.take_succ_eq_append_getElem h1, cnt_snoc, toldStep_at (show k < l.length by omega) h1, ← ih]
    by_cases hq : cs[k] = 0
    · simp [hq]
    · have hq' : (cs[k] == 0) = false := by simpa using hq
      simp [hq, hq']
def toldDone (l : List TEntry) : List TReq := bif listOk l then told l (folded l).2 l.length else []
theorem copiedReq_eq {l : List TReq} (h : l.length * 16 ≤ 140737488351232) : impl_copied_Req l = some l := by
  unfold impl_copied_Req need
  cases l with
  | nil => rfl
  | cons x l =>
    have h1 : (((x :: l).length : Int) == 0) = false := by simp; omega
    rw [h1, cond_false, if_pos (by constructor <;> omega), if_pos (by simp)]
theorem implTold_eq {l : List TEntry} (h : okL 88 fEntry l) : impl_ToldDone l = some (toldDone l) := by
  unfold impl_ToldDone toldDone
  rw [implList_eq h, Option.bind_some]
  cases hok : listOk l
  · rfl
  have hf : Fits l := h.fits (by decide)
  obtain ⟨hl, he⟩ := listOk_parts hok
  obtain ⟨_, hlen, hc⟩ := folded_inv hl he l.length (Nat.le_refl _)
  rw [List.take_length] at hlen hc
  rw [Bool.not_true, cond_false, cond_true, implFolded_eq h hl he, Option.bind_some]
  have hsm : ∀ k, k ≤ l.length → (told l (folded l).2 k).length ≤ 40 := by
    intro k hk
    have h1 := told_len hlen k hk
    have h2 := cnt_range ((folded l).2.take k) 0
    rw [List.length_take] at h2
    omega
  have hloop := loop_to (body := fun s : (List TReq) × Int => impl_ToldDone_b1 l (folded l) s.1 s.2) (fun k => (told l (folded l).2 k, (k : Int))) l.length (by
    intro k hk
    have hk2 : k < (folded l).2.length := by omega
    have hs := hsm k (by omega)
    have n1 : ((told l (folded l).2 k).length + 1) * 16 ≤ 140737488355328 := by omega
    show impl_ToldDone_b1 l (folded l) (told l (folded l).2 k) (k : Int) = some (.nxt (told l (folded l).2 k ++ toldStep l (folded l).2 k, ((k + 1 : Nat) : Int)))
    rw [toldStep_at hk hk2]
    unfold impl_ToldDone_b1 impl_ToldDone_j1
    rw [lt_len _ k hk, idx_lt hk, idx_lt hk2, w64_next hf hk]
    simp only [cond_true, Option.bind_some, need_pos n1]
    cases (folded l).2[k] == 0
    · simp only [cond_false, Option.bind_some, Exc.go, List.append_nil]
    · rfl)
  rw [show told l (folded l).2 0 = [] from rfl, show ((0 : Nat) : Int) = 0 from rfl] at hloop
  rw [hloop, loop_brk (b := told l (folded l).2 l.length)]
  · simp only [Option.bind_some, Exc.go]
    unfold impl_ToldDone_k2
    rw [copiedReq_eq (by have := hsm l.length (Nat.le_refl _); omega)]
    rfl
  · unfold impl_ToldDone_b1
    rw [nlt_len]; rfl

/-! ### How often all boxes were put into -/
def verSum : List TBox → Int
  | [] => 0
  | b :: l => b.Ver + verSum l
theorem verSum_set : ∀ {l : List TBox} {i : Nat} {x y : TBox}, l[i]? = some x → verSum (l.set i y) = verSum l - x.Ver + y.Ver
  | [], i, x, y, h => by simp at h
  | b :: l, 0, x, y, h => by
    simp at h
    subst h
    simp only [List.set_cons_zero, verSum]
    omega
  | b :: l, i + 1, x, y, h => by
    have := verSum_set (l := l) (i := i) (x := x) (y := y) (by simpa using h)
    simp only [List.set_cons_succ, verSum]
    omega
theorem verSum_bump {l : List TBox} {p : TPut} (h : boxesOk l = true) (hp : putFine p) : verSum (bump l p) ≤ verSum l + 1 := by
  obtain ⟨b, _, h2, h3⟩ := box_at h (b := p.Box) ⟨hp.1, hp.2.1⟩
  rw [bump_at h2, verSum_set h2]
  simp only
  split <;> omega
theorem verSum_puts : ∀ {ps : List TPut} {l : List TBox}, boxesOk l = true → (∀ p ∈ ps, putFine p) → verSum (doPuts l ps) ≤ verSum l + ps.length
  | [], l, _, _ => by simp [doPuts]
  | p :: ps, l, h, hp => by
    have h1 := verSum_bump h (hp p (by simp))
    have h2 := verSum_puts (ps := ps) (bump_ok h (hp p (by simp))) fun x hx => hp x (by simp [hx])
    show verSum (doPuts (bump l p) ps) ≤ _
    simp only [List.length_cons]
    omega
theorem filter_one {ps : List TPut} (h : ps.Pairwise fun p q => p.Box ≠ q.Box) (b : Int) : (ps.filter fun p => p.Box == b).length ≤ 1 := by
  have h2 := h.filter (fun p => p.Box == b)
  cases hq : ps.filter fun p => p.Box == b with
  | nil => simp
  | cons x r =>
    cases r with
    | nil => simp
    | cons y r =>
      rw [hq] at h2
      have hne := (List.pairwise_cons.1 h2).1 y (by simp)
      have hx : x ∈ ps.filter fun p => p.Box == b := by rw [hq]; simp
      have hy : y ∈ ps.filter fun p => p.Box == b := by rw [hq]; simp
      have hx := (List.mem_filter.1 hx).2
      have hy := (List.mem_filter.1 hy).2
      simp only [beq_iff_eq] at hx hy
      omega
theorem puts_len : ∀ {ps : List TPut}, (∀ p ∈ ps, putFine p) → ps.length = (ps.filter fun p => p.Box == 0).length + (ps.filter fun p => p.Box == 1).length + (ps.filter fun p => p.Box == 2).length + (ps.filter fun p => p.Box == 3).length
  | [], _ => rfl
  | p :: ps, h => by
    have ih := puts_len (ps := ps) fun x hx => h x (by simp [hx])
    have hp := h p (by simp)
    have : p.Box = 0 ∨ p.Box = 1 ∨ p.Box = 2 ∨ p.Box = 3 := by
      have := hp.1
      have := hp.2.1
      omega
    simp only [List.filter_cons, List.length_cons]
    rcases this with q | q | q | q <;> simp [q] <;> omega
theorem puts_four {r : TRun} (h : runOk r = true) : r.Puts.length ≤ 4 := by
  have h1 := (allP_iff.1 (runOk_allP h))
  have h2 := puts_len h1.1
  have a := filter_one h1.2 0
  have b := filter_one h1.2 1
  have c := filter_one h1.2 2
  have d := filter_one h1.2 3
  omega
theorem vers_done {l : List TEntry} (hl : l.length ≤ 40) (he : l.all entryOk = true) : ∀ k, k ≤ l.length → verSum (folded (l.take k)).1.Boxes ≤ 4 * cnt ((folded l).2.take k) 0
  | 0, _ => by
    rw [List.take_zero, List.take_zero]
    decide
  | k + 1, hk => by
    have hkl : k < l.length := by omega
    have ih := vers_done hl he k (by omega)
    have hlen := (folded_inv hl he l.length (Nat.le_refl _)).2.1
    rw [List.take_length] at hlen
    have hk2 : k < (folded l).2.length := by omega
    have hek := List.all_eq_true.1 he _ (List.getElem_mem hkl)
    have hin := (folded_inv hl he k (by omega)).1
    have hcode := folded_code hl he hkl
    rw [List.getElem?_eq_getElem hk2] at hcode
    injection hcode with hcode
    rw [List.take_succ_eq_append_getElem hk2, cnt_snoc, hcode, folded_take hkl]
    show verSum (apply (folded (l.take k)).1 l[k]).1.Boxes ≤ _
    rcases apply_boxes hin hek with ⟨h1, h2, h3⟩ | ⟨h1, h2⟩
    · obtain ⟨_, _, hr, _⟩ := entryOk_some hek h2
      have hv := verSum_puts hin.boxes (runOk_parts hr).2.2.2.2
      have h4 := puts_four hr
      rw [h3, if_pos h1]
      omega
    · rw [h2, if_neg h1]
      omega
theorem cnt_sum : ∀ {cs : List Int}, (∀ c ∈ cs, 0 ≤ c ∧ c ≤ 5) → cnt cs 0 + cnt cs 1 + cnt cs 2 + cnt cs 3 + cnt cs 4 + cnt cs 5 = (cs.length : Int)
  | [], _ => rfl
  | c :: cs, h => by
    have ih := cnt_sum (cs := cs) fun x hx => h x (by simp [hx])
    have hc := h c (by simp)
    have : c = 0 ∨ c = 1 ∨ c = 2 ∨ c = 3 ∨ c = 4 ∨ c = 5 := by omega
    unfold cnt at ih ⊢
    simp only [List.filter_cons, List.length_cons]
    rcases this with q | q | q | q | q | q <;> simp [q] <;> omega
end Go.Proofs.Ythefcgmhjonopaa
