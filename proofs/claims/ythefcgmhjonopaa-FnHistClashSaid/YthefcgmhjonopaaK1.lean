/- Plain law of FnHistClash: conflicts are found exactly. -/
import Derived.Test.YthefcgmhjonopaaK0
set_option linter.unusedVariables false
set_option linter.unusedSimpArgs false
namespace Go.Proofs.Ythefcgmhjonopaa
open Go

theorem any_next {α : Type} (p : α → Bool) {l : List α} {k : Nat} (hk : k < l.length) : (l.take (k + 1)).any p = ((l.take k).any p || p l[k]) := by
  rw [List.take_succ_eq_append_getElem hk, List.any_append]
  simp
def eqR (x y : TReq) : Bool := ([x.Who, x.Seq] : List Int) == [y.Who, y.Seq]
theorem eqR_self (x : TReq) : eqR x x = true := by simp [eqR]
theorem eqR_eq {x y : TReq} (h : eqR x y = true) : x = y := by
  cases x; cases y
  simp [eqR] at h
  simp [h]
theorem clash_list {x y : TClash} (h : (([x.First, x.Last, x.Box] : List Int) == [y.First, y.Last, y.Box]) = true) : x = y := by
  cases x; cases y
  simp at h
  simp [h]
theorem cnt_take_succ {cs : List Int} {k : Nat} (hk : k < cs.length) (c : Int) : cnt (cs.take (k + 1)) c = cnt (cs.take k) c + (if cs[k] = c then 1 else 0) := by
  rw [List.take_succ_eq_append_getElem hk, cnt_snoc]
theorem cnt_take_mono {cs : List Int} (c : Int) (k : Nat) : ∀ d, k + d ≤ cs.length → cnt (cs.take k) c ≤ cnt (cs.take (k + d)) c
  | 0, _ => Int.le_refl _
  | d + 1, h => by
    have ih := cnt_take_mono (cs := cs) c k d (by omega)
    have := cnt_take_succ (cs := cs) (show k + d < cs.length by omega) c
    rw [show k + (d + 1) = k + d + 1 from rfl, this]
    split <;> omega
theorem cnt_two {cs : List Int} {i k : Nat} (hik : i < k) (hk : k < cs.length) (h1 : cs[i]'(by omega) = 0) (h2 : cs[k] = 0) : 2 ≤ cnt cs 0 := by
  have a := cnt_take_succ (cs := cs) (show i < cs.length by omega) 0
  have b := cnt_take_succ (cs := cs) hk 0
  rw [if_pos h1] at a
  rw [if_pos h2] at b
  have c := cnt_take_mono (cs := cs) 0 (i + 1) (k - (i + 1)) (by omega)
  rw [show i + 1 + (k - (i + 1)) = k from by omega] at c
  have d := cnt_take_mono (cs := cs) 0 (k + 1) (cs.length - (k + 1)) (by omega)
  rw [show k + 1 + (cs.length - (k + 1)) = cs.length from by omega, List.take_length] at d
  have e := (cnt_range (cs.take i) 0).1
  omega

theorem clashQ {done : List TReq} (hd : Fits done) (a b : TEntry) : loop (fun s : Bool × Int × Bool => laws_FnHistClash_b3 done a b s.1 s.2.1 s.2.2) (false, 0, false) = some (.brk (done.any (fun x => eqR x b.Req), done.any (fun x => eqR x a.Req))) := by
  have hloop := loop_to (body := fun s : Bool × Int × Bool => laws_FnHistClash_b3 done a b s.1 s.2.1 s.2.2) (fun k => ((done.take k).any (fun x => eqR x b.Req), (k : Int), (done.take k).any (fun x => eqR x a.Req))) done.length (by
    intro k hk
    show laws_FnHistClash_b3 done a b ((done.take k).any (fun x => eqR x b.Req)) (k : Int) ((done.take k).any (fun x => eqR x a.Req)) = some (.nxt ((done.take (k + 1)).any (fun x => eqR x b.Req), ((k + 1 : Nat) : Int), (done.take (k + 1)).any (fun x => eqR x a.Req)))
    rw [any_next _ hk, any_next _ hk]
    unfold laws_FnHistClash_b3
    rw [lt_len _ k hk, idx_lt hk, w64_next hd hk]
    cases (done.take k).any (fun x => eqR x b.Req) <;> cases (done.take k).any (fun x => eqR x a.Req) <;> rfl)
  rw [List.take_zero, List.take_length, show ((0 : Nat) : Int) = 0 from rfl] at hloop
  rw [show loop (fun s : Bool × Int × Bool => laws_FnHistClash_b3 done a b s.1 s.2.1 s.2.2) (false, 0, false) = _ from hloop]
  refine loop_brk ?_
  unfold laws_FnHistClash_b3
  rw [nlt_len]; rfl
theorem clashA {all : List TClash} {i : Int} {c : TClash} (hc : idx all i = some c) (e : TEntry) (he : Fits e.Run.Puts) : loop (fun s : Bool × Int => laws_FnHistClash_b2 all i e s.1 s.2) (false, 0) = some (.brk (sawP e.Run.Puts c.Box)) := by
  have hloop := loop_to (body := fun s : Bool × Int => laws_FnHistClash_b2 all i e s.1 s.2) (fun k => (sawP (e.Run.Puts.take k) c.Box, (k : Int))) e.Run.Puts.length (by
    intro k hk
    show laws_FnHistClash_b2 all i e (sawP (e.Run.Puts.take k) c.Box) (k : Int) = some (.nxt (sawP (e.Run.Puts.take (k + 1)) c.Box, ((k + 1 : Nat) : Int)))
    rw [sawP_next hk]
    unfold laws_FnHistClash_b2
    rw [lt_len _ k hk, idx_lt hk, w64_next he hk, hc]
    cases sawP (e.Run.Puts.take k) c.Box <;> rfl)
  rw [List.take_zero, List.take_length, show ((0 : Nat) : Int) = 0 from rfl] at hloop
  rw [show loop (fun s : Bool × Int => laws_FnHistClash_b2 all i e s.1 s.2) (false, 0) = _ from hloop]
  refine loop_brk ?_
  unfold laws_FnHistClash_b2
  rw [nlt_len]; rfl
theorem clashB {all : List TClash} {i : Int} {c : TClash} (hc : idx all i = some c) (e : TEntry) (he : Fits e.Run.Puts) (p : Bool) : loop (fun s : Bool × Int => laws_FnHistClash_b1 all i e s.1 s.2) (p, 0) = some (.brk (p || sawP e.Run.Puts c.Box)) := by
  have hloop := loop_to (body := fun s : Bool × Int => laws_FnHistClash_b1 all i e s.1 s.2) (fun k => (p || sawP (e.Run.Puts.take k) c.Box, (k : Int))) e.Run.Puts.length (by
    intro k hk
    show laws_FnHistClash_b1 all i e (p || sawP (e.Run.Puts.take k) c.Box) (k : Int) = some (.nxt (p || sawP (e.Run.Puts.take (k + 1)) c.Box, ((k + 1 : Nat) : Int)))
    rw [sawP_next hk]
    unfold laws_FnHistClash_b1 laws_FnHistClash_j2
    rw [lt_len _ k hk, idx_lt hk, w64_next he hk, hc]
    cases p <;> cases sawP (e.Run.Puts.take k) c.Box <;> rfl)
  rw [List.take_zero, List.take_length, show ((0 : Nat) : Int) = 0 from rfl, show sawP [] c.Box = false from rfl, Bool.or_false] at hloop
  rw [hloop]
  refine loop_brk ?_
  unfold laws_FnHistClash_b1
  rw [nlt_len]; rfl
theorem both_parts {l : List TEntry} {cs : List Int} {i k b : Nat} (h : both l cs i k b = true) (hc : cs.length = l.length) (hi : i < l.length) (hk : k < l.length) : cs[i]'(by omega) = 0 ∧ cs[k]'(by omega) = 0 ∧ clashes l[i].Run l[k].Run (b : Int) = true := by
  rw [both_at hi hk (by omega) (by omega)] at h
  simpa using h
theorem clashes_puts {a b : TRun} {box : Int} (h : clashes a b box = true) : (sawP a.Puts box || sawP b.Puts box) = true := by
  unfold clashes at h
  cases h1 : sawP a.Puts box <;> cases h2 : sawP b.Puts box <;> simp_all

theorem fnHistClash_true {code : List Int} (h : okL 1 okU8 code) : laws_FnHistClash code = some true := by
  unfold laws_FnHistClash
  cases decide ((code.length : Int) > 1048576)
  case true => rfl
  obtain ⟨l, d1, d2⟩ := drawClashes_ok h.2
  have hf := d2.f
  rw [cond_false, d1, Option.bind_some, implClashes_eq hf, Option.bind_some, specClashes_eq hf, Option.bind_some, bne_self_eq_false, cond_false, implTold_eq hf, Option.bind_some]
  cases hok : listOk l
  case false =>
    have h1 : histClashes l = [] := by unfold histClashes; rw [hok]; rfl
    have h2 : toldDone l = [] := by unfold toldDone; rw [hok]; rfl
    rw [h1, h2, loop_brk (b := ()) (by rfl)]
    rfl
  obtain ⟨hl, he⟩ := listOk_parts hok
  obtain ⟨_, hlen, _⟩ := folded_inv hl he l.length (Nat.le_refl _)
  rw [List.take_length] at hlen
  have htd : toldDone l = told l (folded l).2 l.length := by unfold toldDone; rw [hok]; rfl
  have htl := told_len hlen l.length (Nat.le_refl _)
  have htk : (folded l).2.take l.length = (folded l).2 := by rw [← hlen, List.take_length]
  rw [htk] at htl
  have hall : histClashes l = cl1 (both l (folded l).2) l.length l.length := by unfold histClashes; rw [hok]; rfl
  have hmem : ∀ x ∈ cl1 (both l (folded l).2) l.length l.length, _ := fun x hx => (cl1_mem (Nat.le_refl _)).1 hx
  have hnd := cl1_nodup (both l (folded l).2) l.length l.length (Nat.le_refl _)
  have hal := cl1_len (both l (folded l).2) hl l.length
  rw [htd, hall]
  generalize hA : cl1 (both l (folded l).2) l.length l.length = A at hmem hnd hal
  have hfa : Fits A := by unfold Fits; omega
  have hcr := cnt_range (folded l).2 0
  have hft : Fits (told l (folded l).2 l.length) := by unfold Fits; omega
  have hloop := loop_to (body := fun s : Int => laws_FnHistClash_b4 l A (told l (folded l).2 l.length) s) (fun n => (n : Int)) A.length (by
    intro n hn
    obtain ⟨i, k, b, q1, q2, q3, q4, q5, q6⟩ := hmem _ (List.getElem_mem hn)
    obtain ⟨c1, c2, c3⟩ := both_parts q5 hlen q1 q3
    have hiA : idx A (n : Int) = some A[n] := idx_lt hn
    show laws_FnHistClash_b4 l A (told l (folded l).2 l.length) (n : Int) = some (.nxt ((n + 1 : Nat) : Int))
    unfold laws_FnHistClash_b4
    rw [lt_len _ n hn, cond_true, hiA, Option.bind_some]
    have e1 : idx l A[n].First = some l[i] := by rw [q6]; exact idx_lt q1
    have e2 : idx l A[n].Last = some l[k] := by rw [q6]; exact idx_lt q3
    rw [e1, Option.bind_some, e2, Option.bind_some, clashQ hft]
    have m1 : (told l (folded l).2 l.length).any (fun x => eqR x l[i].Req) = true := by
      rw [List.any_eq_true]
      refine ⟨l[i].Req, (told_mem hlen (Nat.le_refl _)).2 ⟨i, l[i], q1, List.getElem?_eq_getElem q1, ?_, rfl⟩, eqR_self _⟩
      rw [List.getElem?_eq_getElem (show i < (folded l).2.length by omega), c1]
    have m2 : (told l (folded l).2 l.length).any (fun x => eqR x l[k].Req) = true := by
      rw [List.any_eq_true]
      refine ⟨l[k].Req, (told_mem hlen (Nat.le_refl _)).2 ⟨k, l[k], q3, List.getElem?_eq_getElem q3, ?_, rfl⟩, eqR_self _⟩
      rw [List.getElem?_eq_getElem (show k < (folded l).2.length by omega), c2]
    rw [m1, m2]
    simp only [Option.bind_some, Exc.go]
    unfold laws_FnHistClash_k13
    rw [clashA hiA _ ((hf.2 _ (List.getElem_mem q1)).2.2.1.fits (by decide))]
    simp only [Option.bind_some, Exc.go]
    unfold laws_FnHistClash_k11
    rw [clashB hiA _ ((hf.2 _ (List.getElem_mem q3)).2.2.1.fits (by decide))]
    have hp : (sawP l[i].Run.Puts A[n].Box || sawP l[k].Run.Puts A[n].Box) = true := by
      rw [q6]
      exact clashes_puts c3
    rw [hp]
    simp only [Option.bind_some, Exc.go]
    unfold laws_FnHistClash_k8 laws_FnHistClash_j1
    simp only [Bool.not_true, cond_false]
    rw [w64_next hfa hn]
    cases n with
    | zero => rfl
    | succ n =>
      have hpos : decide (((n + 1 : Nat) : Int) > 0) = true := by simp
      have hn' : n < A.length := by omega
      rw [hpos, cond_true, hiA, Option.bind_some, w64_in (by omega) (by omega), show ((n + 1 : Nat) : Int) - 1 = (n : Int) from by omega, idx_lt hn', Option.bind_some]
      have hne : (([A[n + 1].First, A[n + 1].Last, A[n + 1].Box] : List Int) == [A[n].First, A[n].Last, A[n].Box]) = false := by
        cases hq : (([A[n + 1].First, A[n + 1].Last, A[n + 1].Box] : List Int) == [A[n].First, A[n].Last, A[n].Box])
        · rfl
        · exact absurd (clash_list hq).symm (List.pairwise_iff_getElem.1 hnd n (n + 1) hn' hn (by omega))
      rw [hne]
      rfl)
  rw [show ((0 : Nat) : Int) = 0 from rfl] at hloop
  rw [hloop, loop_brk (b := ())]
  · simp only [Option.bind_some, Exc.go]
    unfold laws_FnHistClash_k2
    rw [htl]
    by_cases hg : cnt (folded l).2 0 > 1
    · rw [decide_eq_true hg]; rfl
    · rw [decide_eq_false hg, cond_false]
      cases A with
      | nil => rfl
      | cons x A =>
        obtain ⟨i, k, b, q1, q2, q3, q4, q5, q6⟩ := hmem x (by simp)
        obtain ⟨c1, c2, _⟩ := both_parts q5 hlen q1 q3
        have := cnt_two (cs := (folded l).2) q2 (by omega) c1 c2
        omega
  · unfold laws_FnHistClash_b4
    rw [nlt_len]; rfl
end Go.Proofs.Ythefcgmhjonopaa
