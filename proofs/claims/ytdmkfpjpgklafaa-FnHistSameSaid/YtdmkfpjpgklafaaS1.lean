/- Plain law of FnHistSame: every read-write conflict is recorded. -/
import Derived.Test.YtdmkfpjpgklafaaS0
set_option linter.unusedVariables false
set_option linter.unusedSimpArgs false
namespace Go.Proofs.Ytdmkfpjpgklafaa
open Go

theorem sameA {l : List TEntry} {box : Int} {done : List TReq} (hd : Fits done) {i : Nat} (hi : i < l.length) : loop (fun s : Int × Bool => laws_FnHistSame_b4 (l, box) done (i : Int) s.1 s.2) (0, false) = some (.brk (done.any (fun x => eqR x l[i].Req && !l[i].None))) := by
  have hloop := loop_to (body := fun s : Int × Bool => laws_FnHistSame_b4 (l, box) done (i : Int) s.1 s.2) (fun k => ((k : Int), (done.take k).any (fun x => eqR x l[i].Req && !l[i].None))) done.length (by
    intro k hk
    show laws_FnHistSame_b4 (l, box) done (i : Int) (k : Int) ((done.take k).any (fun x => eqR x l[i].Req && !l[i].None)) = some (.nxt (((k + 1 : Nat) : Int), (done.take (k + 1)).any (fun x => eqR x l[i].Req && !l[i].None)))
    rw [any_next _ hk]
    unfold laws_FnHistSame_b4 laws_FnHistSame_j2
    rw [lt_len _ k hk, idx_lt hk, w64_next hd hk, cond_true]
    simp only [idx_lt hi, Option.bind_some]
    unfold eqR
    cases (done.take k).any (fun x => (([x.Who, x.Seq] : List Int) == [l[i].Req.Who, l[i].Req.Seq]) && !l[i].None) <;> cases ([done[k].Who, done[k].Seq] : List Int) == [l[i].Req.Who, l[i].Req.Seq] <;> rfl)
  rw [List.take_zero, List.take_length, show ((0 : Nat) : Int) = 0 from rfl] at hloop
  rw [show loop (fun s : Int × Bool => laws_FnHistSame_b4 (l, box) done (i : Int) s.1 s.2) (0, false) = _ from hloop]
  refine loop_brk ?_
  unfold laws_FnHistSame_b4
  rw [nlt_len]; rfl
theorem sameB {l : List TEntry} {box : Int} (hf : Fits l) {i : Nat} (hi : i < l.length) (fine : Bool) : loop (fun s : Int × Bool => laws_FnHistSame_b3 (l, box) (i : Int) s.1 s.2) (0, fine) = some (.brk (fine && !(l.take i).any (fun x => eqR x.Req l[i].Req))) := by
  have hloop := loop_to (body := fun s : Int × Bool => laws_FnHistSame_b3 (l, box) (i : Int) s.1 s.2) (fun k => ((k : Int), fine && !(l.take k).any (fun x => eqR x.Req l[i].Req))) i (by
    intro k hk
    have hkl : k < l.length := by omega
    show laws_FnHistSame_b3 (l, box) (i : Int) (k : Int) (fine && !(l.take k).any (fun x => eqR x.Req l[i].Req)) = some (.nxt (((k + 1 : Nat) : Int), fine && !(l.take (k + 1)).any (fun x => eqR x.Req l[i].Req)))
    rw [any_next _ hkl]
    unfold laws_FnHistSame_b3 laws_FnHistSame_j1
    have hlt : decide ((k : Int) < (i : Int)) = true := by simp; omega
    rw [hlt, w64_next hf hkl, cond_true]
    simp only [idx_lt hi, idx_lt hkl, Option.bind_some]
    unfold eqR
    cases fine <;> cases (l.take k).any (fun x => ([x.Req.Who, x.Req.Seq] : List Int) == [l[i].Req.Who, l[i].Req.Seq]) <;> cases ([l[k].Req.Who, l[k].Req.Seq] : List Int) == [l[i].Req.Who, l[i].Req.Seq] <;> rfl)
  rw [List.take_zero, show ((0 : Nat) : Int) = 0 from rfl, List.any_nil, Bool.not_false, Bool.and_true] at hloop
  rw [hloop]
  refine loop_brk ?_
  unfold laws_FnHistSame_b3
  have : decide ((i : Int) < (i : Int)) = false := by simp
  simp only
  rw [this]; rfl
theorem sameC {l : List TEntry} {box : Int} {i : Nat} (hi : i < l.length) (hr : Fits l[i].Run.Reads) : loop (fun s : Bool × Int => laws_FnHistSame_b2 (l, box) (i : Int) s.1 s.2) (false, 0) = some (.brk (saw l[i].Run.Reads box)) := by
  have hloop := loop_to (body := fun s : Bool × Int => laws_FnHistSame_b2 (l, box) (i : Int) s.1 s.2) (fun k => (saw (l[i].Run.Reads.take k) box, (k : Int))) l[i].Run.Reads.length (by
    intro k hk
    show laws_FnHistSame_b2 (l, box) (i : Int) (saw (l[i].Run.Reads.take k) box) (k : Int) = some (.nxt (saw (l[i].Run.Reads.take (k + 1)) box, ((k + 1 : Nat) : Int)))
    rw [saw_next hk]
    unfold laws_FnHistSame_b2
    simp only [idx_lt hi, Option.bind_some]
    rw [lt_len _ k hk, idx_lt hk, w64_next hr hk]
    cases saw (l[i].Run.Reads.take k) box <;> rfl)
  rw [List.take_zero, List.take_length, show ((0 : Nat) : Int) = 0 from rfl] at hloop
  rw [show loop (fun s : Bool × Int => laws_FnHistSame_b2 (l, box) (i : Int) s.1 s.2) (false, 0) = _ from hloop]
  refine loop_brk ?_
  unfold laws_FnHistSame_b2
  simp only [idx_lt hi, Option.bind_some]
  rw [nlt_len]; rfl
theorem sameD {l : List TEntry} {box who : Int} {all : List TClash} (ha : Fits all) (i : Int) : loop (fun s : Bool × Int => laws_FnHistSame_b1 (l, box) who all i s.1 s.2) (false, 0) = some (.brk (all.any (fun x => ([x.First, x.Last, x.Box] : List Int) == [i, who, box]))) := by
  have hloop := loop_to (body := fun s : Bool × Int => laws_FnHistSame_b1 (l, box) who all i s.1 s.2) (fun k => ((all.take k).any (fun x => ([x.First, x.Last, x.Box] : List Int) == [i, who, box]), (k : Int))) all.length (by
    intro k hk
    show laws_FnHistSame_b1 (l, box) who all i ((all.take k).any (fun x => ([x.First, x.Last, x.Box] : List Int) == [i, who, box])) (k : Int) = some (.nxt ((all.take (k + 1)).any (fun x => ([x.First, x.Last, x.Box] : List Int) == [i, who, box]), ((k + 1 : Nat) : Int)))
    rw [any_next _ hk]
    unfold laws_FnHistSame_b1
    rw [lt_len _ k hk, idx_lt hk, w64_next ha hk, cond_true]
    cases (all.take k).any (fun x => ([x.First, x.Last, x.Box] : List Int) == [i, who, box]) <;> rfl)
  rw [List.take_zero, List.take_length, show ((0 : Nat) : Int) = 0 from rfl] at hloop
  rw [show loop (fun s : Bool × Int => laws_FnHistSame_b1 (l, box) who all i s.1 s.2) (false, 0) = _ from hloop]
  refine loop_brk ?_
  unfold laws_FnHistSame_b1
  rw [nlt_len]; rfl
theorem fnHistSame_true {code : List Int} (h : okL 1 okU8 code) : laws_FnHistSame code = some true := by
  unfold laws_FnHistSame
  cases decide ((code.length : Int) > 1048576)
  case true => rfl
  obtain ⟨l, n, d1, d2, d3, d4⟩ := drawWho_ok h.2
  have hf := d2.f
  have hfl : Fits l := hf.fits (by decide)
  rw [cond_false, d1, Option.bind_some]
  simp only
  rw [implWho_eq hf, Option.bind_some, specWho_eq hf, Option.bind_some, bne_self_eq_false, cond_false]
  by_cases hneg : histWho l n < 0
  · rw [decide_eq_true hneg, cond_true, Option.bind_some, beq_self_eq_true]
  rw [decide_eq_false hneg, cond_false, implClashes_eq hf, Option.bind_some, implTold_eq hf, Option.bind_some]
  cases hok : listOk l
  case false =>
    exfalso
    apply hneg
    unfold histWho
    rw [hok]
    show (-1 : Int) < 0
    decide
  obtain ⟨hl, he⟩ := listOk_parts hok
  obtain ⟨_, hlen, _⟩ := folded_inv hl he l.length (Nat.le_refl _)
  rw [List.take_length] at hlen
  have hw : histWho l n = lastIdx (putBy l (folded l).2 n) l.length := by unfold histWho; rw [hok]; rfl
  rw [hw] at hneg
  obtain ⟨k, k1, k2, k3, k4⟩ := lastIdx_pos (show lastIdx (putBy l (folded l).2 n) l.length ≥ 0 by omega)
  rw [hw, k1]
  have htd : toldDone l = told l (folded l).2 l.length := by unfold toldDone; rw [hok]; rfl
  have htl := told_len hlen l.length (Nat.le_refl _)
  have htk : (folded l).2.take l.length = (folded l).2 := by rw [← hlen, List.take_length]
  rw [htk] at htl
  have hcr := cnt_range (folded l).2 0
  have hft : Fits (told l (folded l).2 l.length) := by unfold Fits; omega
  have hall : histClashes l = cl1 (both l (folded l).2) l.length l.length := by unfold histClashes; rw [hok]; rfl
  have hfa : Fits (cl1 (both l (folded l).2) l.length l.length) := by
    have := cl1_len (both l (folded l).2) hl l.length
    unfold Fits
    omega
  rw [htd, hall]
  obtain ⟨hb, _⟩ := putBy_true hl he k2 k3
  rw [putBy_at k2 (show k < (folded l).2.length by omega)] at k3
  simp only [Bool.and_eq_true, beq_iff_eq] at k3
  have hloop := loop_to (body := fun s : Int => laws_FnHistSame_b5 (l, n) (k : Int) (cl1 (both l (folded l).2) l.length l.length) (told l (folded l).2 l.length) s) (fun i => (i : Int)) k (by
    intro i hik
    have hi : i < l.length := by omega
    show laws_FnHistSame_b5 (l, n) (k : Int) (cl1 (both l (folded l).2) l.length l.length) (told l (folded l).2 l.length) (i : Int) = some (.nxt ((i + 1 : Nat) : Int))
    have hlt : decide ((i : Int) < (k : Int)) = true := by simp; omega
    unfold laws_FnHistSame_b5
    rw [hlt, cond_true, sameA hft hi]
    simp only [Option.bind_some, Exc.go]
    unfold laws_FnHistSame_k15
    rw [sameB hfl hi]
    simp only [Option.bind_some, Exc.go]
    unfold laws_FnHistSame_k12
    rw [sameC hi ((hf.2 _ (List.getElem_mem hi)).2.1.fits (by decide))]
    simp only [Option.bind_some, Exc.go]
    unfold laws_FnHistSame_k10
    rw [w64_next hfl hi]
    cases hfine : ((told l (folded l).2 l.length).any (fun x => eqR x l[i].Req && !l[i].None) && !(l.take i).any (fun x => eqR x.Req l[i].Req))
    · rfl
    cases hsaw : saw l[i].Run.Reads n
    · rfl
    simp only [Bool.not_true, cond_false]
    rw [sameD hfa]
    simp only [Option.bind_some, Exc.go]
    unfold laws_FnHistSame_k8
    rw [w64_next hfl hi]
    have hsome : (cl1 (both l (folded l).2) l.length l.length).any (fun x => ([x.First, x.Last, x.Box] : List Int) == [(i : Int), (k : Int), n]) = true := by
      simp only [Bool.and_eq_true, Bool.not_eq_true'] at hfine
      obtain ⟨f1, f2⟩ := hfine
      rw [List.any_eq_true] at f1
      obtain ⟨q, q1, q2⟩ := f1
      simp only [Bool.and_eq_true, Bool.not_eq_true'] at q2
      obtain ⟨m, e, m1, m2, m3, m4⟩ := (told_mem hlen (Nat.le_refl _)).1 q1
      rw [List.getElem?_eq_getElem m1] at m2
      injection m2 with m2
      have hreq : l[m].Req = l[i].Req := by rw [m2, ← m4]; exact eqR_eq q2.1
      have hmi : m = i := by
        by_cases h1 : m < i
        · exfalso
          rw [List.any_eq_false] at f2
          refine f2 l[m] (List.mem_take_iff_getElem.2 ⟨m, by omega, rfl⟩) ?_
          rw [hreq]
          exact eqR_self _
        · by_cases h2 : i < m
          · exact absurd m3 (done_once hl he h2 m1 q2.2 hreq)
          · omega
      subst hmi
      have hc0 : (folded l).2[m]'(by omega) = 0 := by
        rw [List.getElem?_eq_getElem (show m < (folded l).2.length by omega)] at m3
        injection m3
      rw [List.any_eq_true]
      refine ⟨⟨(m : Int), (k : Int), n⟩, (cl1_mem (Nat.le_refl _)).2 ⟨m, k, n.toNat, m1, hik, k2, by omega, ?_, ?_⟩, by simp⟩
      · rw [both_at m1 k2 (by omega) (by omega), hc0, k3.1, show ((n.toNat : Nat) : Int) = n from by omega]
        unfold clashes
        rw [hsaw, k3.2]
        cases sawP l[m].Run.Puts n <;> rfl
      · rw [show ((n.toNat : Nat) : Int) = n from by omega]
    rw [hsome]
    rfl)
  rw [show ((0 : Nat) : Int) = 0 from rfl] at hloop
  rw [hloop, loop_brk (b := ())]
  · rfl
  · unfold laws_FnHistSame_b5
    have : decide ((k : Int) < (k : Int)) = false := by simp
    rw [this]; rfl
end Go.Proofs.Ytdmkfpjpgklafaa
