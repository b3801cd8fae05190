/- A program run on boxes (the document's side): what comes out is right. -/
import Derived.Test.YthefcgmhjonopaaH4
set_option linter.unusedVariables false
set_option linter.unusedSimpArgs false
namespace Go.Proofs.Ythefcgmhjonopaa
open Go

/-! ### What is looked into, what is put -/
def allR (l : List TRead) : Bool := (List.range l.length).all (okReads l)
def allP (l : List TPut) : Bool := (List.range l.length).all (okPuts l)
def readFine (x : TRead) : Prop := 0 ≤ x.Box ∧ x.Box ≤ 3 ∧ 0 ≤ x.Ver ∧ x.Ver ≤ 1000000
theorem allR_iff {l : List TRead} : allR l = true ↔ (∀ x ∈ l, readFine x) ∧ l.Pairwise fun a b => a.Box ≠ b.Box := by
  unfold allR
  constructor
  · intro h
    refine ⟨okReads_mem h, ?_⟩
    rw [List.pairwise_iff_getElem]
    intro i j hi hj hij heq
    have := List.all_eq_true.1 h j (by simpa using hj)
    unfold okReads at this
    rw [List.getElem?_eq_getElem hj] at this
    simp only [Bool.and_eq_true, Bool.not_eq_true'] at this
    have hs := this.2.2
    unfold saw at hs
    rw [List.any_eq_false] at hs
    refine hs l[i] ?_ (by simpa using heq)
    rw [List.mem_take_iff_getElem]
    exact ⟨i, by omega, rfl⟩
  · rintro ⟨h1, h2⟩
    rw [List.all_eq_true]
    intro k hk
    have hk : k < l.length := by simpa using hk
    unfold okReads
    rw [List.getElem?_eq_getElem hk]
    have hf := h1 _ (List.getElem_mem hk)
    have hs : saw (l.take k) l[k].Box = false := by
      unfold saw
      rw [List.any_eq_false]
      intro x hx
      obtain ⟨i, hi, rfl⟩ := List.mem_take_iff_getElem.1 hx
      have := List.pairwise_iff_getElem.1 h2 i k (by omega) hk (by omega)
      simpa using this
    simp only [hs, Bool.not_false, Bool.and_true, Bool.and_eq_true]
    unfold readFine at hf
    exact ⟨by simp [inR]; omega, by simp [inR]; omega⟩
theorem allP_iff {l : List TPut} : allP l = true ↔ (∀ x ∈ l, putFine x) ∧ l.Pairwise fun a b => a.Box ≠ b.Box := by
  unfold allP
  constructor
  · intro h
    refine ⟨okPuts_mem h, ?_⟩
    rw [List.pairwise_iff_getElem]
    intro i j hi hj hij heq
    have := List.all_eq_true.1 h j (by simpa using hj)
    unfold okPuts at this
    rw [List.getElem?_eq_getElem hj] at this
    simp only [Bool.and_eq_true, Bool.not_eq_true'] at this
    have hs := this.2.2
    unfold sawP at hs
    rw [List.any_eq_false] at hs
    refine hs l[i] ?_ (by simpa using heq)
    rw [List.mem_take_iff_getElem]
    exact ⟨i, by omega, rfl⟩
  · rintro ⟨h1, h2⟩
    rw [List.all_eq_true]
    intro k hk
    have hk : k < l.length := by simpa using hk
    unfold okPuts
    rw [List.getElem?_eq_getElem hk]
    have hf := h1 _ (List.getElem_mem hk)
    have hs : sawP (l.take k) l[k].Box = false := by
      unfold sawP
      rw [List.any_eq_false]
      intro x hx
      obtain ⟨i, hi, rfl⟩ := List.mem_take_iff_getElem.1 hx
      have := List.pairwise_iff_getElem.1 h2 i k (by omega) hk (by omega)
      simpa using this
    simp only [hs, Bool.not_false, Bool.and_true, Bool.and_eq_true]
    unfold putFine at hf
    exact ⟨by simp [inR]; omega, by simp [inR]; omega⟩
theorem allR_app {l : List TRead} {x : TRead} (h : allR l = true) (hx : readFine x) (hs : saw l x.Box = false) : allR (l ++ [x]) = true := by
  rw [allR_iff] at h ⊢
  refine ⟨fun y hy => ?_, ?_⟩
  · rcases List.mem_append.1 hy with hy | hy
    · exact h.1 y hy
    · rw [List.mem_singleton.1 hy]; exact hx
  · rw [List.pairwise_append]
    refine ⟨h.2, by simp, fun a ha b hb => ?_⟩
    rw [List.mem_singleton.1 hb]
    unfold saw at hs
    rw [List.any_eq_false] at hs
    simpa using hs a ha
theorem allP_app {l : List TPut} {x : TPut} (h : allP l = true) (hx : putFine x) (hs : sawP l x.Box = false) : allP (l ++ [x]) = true := by
  rw [allP_iff] at h ⊢
  refine ⟨fun y hy => ?_, ?_⟩
  · rcases List.mem_append.1 hy with hy | hy
    · exact h.1 y hy
    · rw [List.mem_singleton.1 hy]; exact hx
  · rw [List.pairwise_append]
    refine ⟨h.2, by simp, fun a ha b hb => ?_⟩
    rw [List.mem_singleton.1 hb]
    unfold sawP at hs
    rw [List.any_eq_false] at hs
    simpa using hs a ha
theorem allP_set {l : List TPut} {k : Nat} {v : Int} (h : allP l = true) (hk : k < l.length) (hv : -1000000 ≤ v ∧ v ≤ 1000000) : allP (l.set k ⟨l[k].Box, v⟩) = true := by
  rw [allP_iff] at h ⊢
  refine ⟨fun y hy => ?_, ?_⟩
  · rcases List.mem_or_eq_of_mem_set hy with hy | rfl
    · exact h.1 y hy
    · have := h.1 _ (List.getElem_mem hk)
      exact ⟨this.1, this.2.1, hv⟩
  · rw [List.pairwise_iff_getElem]
    intro i j hi hj hij
    have hi' : i < l.length := by simpa using hi
    have hj' : j < l.length := by simpa using hj
    have hne := List.pairwise_iff_getElem.1 h.2 i j hi' hj' hij
    rw [List.getElem_set, List.getElem_set]
    split <;> split <;> simp_all
theorem runOk_iff (r : TRun) : runOk r = (inR r.Code 0 3 && (inR r.Val (-1000000) 1000000 && ((r.Code == 0 || (r.Val == 0 && r.Puts.length == 0)) && ((r.Code != 3 || r.Reads.length == 0) && (allR r.Reads && allP r.Puts))))) := rfl
/-- Where a box is put. -/
theorem l3At_pos {l : List TPut} (h : Fits l) (box : Int) : (spec_l3At l box = some (-1) ∧ sawP l box = false) ∨ ∃ k : Nat, spec_l3At l box = some (k : Int) ∧ ∃ hk : k < l.length, l[k].Box = box := by
  have hc := loop_chk (body := fun s : Int => spec_l3At_b1 l box s) (fun k => (k : Int)) l.length (fun k => match l[k]? with | some x => !(x.Box == box) | none => true) (fun k => (k : Int)) ()
    (fun k hk _ => by
      unfold spec_l3At_b1
      rw [lt_len l k hk, idx_lt hk, w64_next h hk]
      simp only [cond_true, Option.bind_some, List.getElem?_eq_getElem hk]
      cases l[k].Box == box <;> rfl) (fun _ => by unfold spec_l3At_b1; rw [nlt_len]; rfl)
  unfold spec_l3At
  rcases hc with ⟨h1, hall⟩ | ⟨k, hk, ho, _, h1⟩
  · left
    rw [show loop (fun s : Int => spec_l3At_b1 l box s) 0 = _ from h1]
    refine ⟨rfl, ?_⟩
    unfold sawP
    rw [List.any_eq_false]
    intro x hx
    obtain ⟨i, hi, rfl⟩ := List.getElem_of_mem hx
    have := hall i hi
    simpa [List.getElem?_eq_getElem hi] using this
  · right
    rw [show loop (fun s : Int => spec_l3At_b1 l box s) 0 = _ from h1]
    refine ⟨k, rfl, hk, ?_⟩
    simpa [List.getElem?_eq_getElem hk] using ho

/-! ### One step -/
def inV (v : Int) : Prop := -1000000 ≤ v ∧ v ≤ 1000000
def regsOk (regs : List Int) : Prop := regs.length = 4 ∧ ∀ v ∈ regs, inV v
theorem reg_at {regs : List Int} (h : regs.length = 4) {a : Int} (ha : 0 ≤ a ∧ a ≤ 3) : ∃ v, idx regs a = some v ∧ v ∈ regs := by
  have hlt : a.toNat < regs.length := by omega
  refine ⟨regs[a.toNat], ?_, List.getElem_mem hlt⟩
  unfold idx
  rw [if_pos ha.1, List.getElem?_eq_getElem hlt]
theorem reg_set {regs : List Int} {a : Nat} {v w : Int} (h : w ∈ regs.set a v) : w ∈ regs ∨ w = v := List.mem_or_eq_of_mem_set h
/-- A run under way. -/
structure Way (r : TRun) (n : Nat) : Prop where
  val : r.Val = 0
  reads : allR r.Reads = true
  puts : allP r.Puts = true
  rlen : r.Reads.length ≤ n
  plen : r.Puts.length ≤ n
theorem Way.fitsR {r : TRun} {n : Nat} (h : Way r n) (hn : n ≤ 100) : Fits r.Reads := by
  have := h.rlen
  unfold Fits; omega
theorem Way.fitsP {r : TRun} {n : Nat} (h : Way r n) (hn : n ≤ 100) : Fits r.Puts := by
  have := h.plen
  unfold Fits; omega
theorem look_ok {l : List TBox} {r : TRun} {n : Nat} {box : Int} (hl : boxesOk l = true) (hr : Way r n) (hn : n ≤ 100) (hb : 0 ≤ box ∧ box ≤ 3) : ∃ v r', spec_l3Look l r box = some (v, r') ∧ Way r' (n + 1) ∧ r'.Code = r.Code ∧ inV v := by
  have hp := (allP_iff.1 hr.puts).1
  unfold spec_l3Look
  rcases l3At_pos (hr.fitsP hn) box with ⟨h1, h2⟩ | ⟨k, h1, hk, h2⟩
  · rw [h1, Option.bind_some, show decide ((-1 : Int) ≥ 0) = false from by decide, cond_false, l3Saw_eq (hr.fitsR hn), Option.bind_some]
    obtain ⟨b, b1, b2, b3⟩ := box_at hl hb
    rw [boxFine_iff] at b3
    cases hs : saw r.Reads box
    · simp only [Bool.not_false, cond_true, b1, Option.bind_some]
      have n1 : (r.Reads.length + 1) * 16 ≤ 140737488355328 := by have := hr.rlen; omega
      simp only [need_pos n1, Option.bind_some, Exc.go]
      unfold spec_l3Look_j1
      rw [b1, Option.bind_some]
      refine ⟨_, _, rfl, ⟨hr.val, allR_app hr.reads ⟨hb.1, hb.2, b3.1⟩ hs, hr.puts, ?_, ?_⟩, rfl, b3.2⟩
      · have := hr.rlen
        simp
        omega
      · have := hr.plen
        simp only
        omega
    · simp only [Bool.not_true, cond_false, Option.bind_some, Exc.go]
      unfold spec_l3Look_j1
      rw [b1, Option.bind_some]
      refine ⟨_, _, rfl, ⟨hr.val, hr.reads, hr.puts, ?_, ?_⟩, rfl, b3.2⟩
      · have := hr.rlen
        simp only
        omega
      · have := hr.plen
        simp only
        omega
  · rw [h1, Option.bind_some, show decide (((k : Nat) : Int) ≥ 0) = true from by simp, cond_true, idx_lt hk, Option.bind_some]
    have hf := hp _ (List.getElem_mem hk)
    exact ⟨_, _, rfl, ⟨hr.val, hr.reads, hr.puts, Nat.le_succ_of_le hr.rlen, Nat.le_succ_of_le hr.plen⟩, rfl, hf.2.2⟩
theorem put_ok {r : TRun} {n : Nat} {box v : Int} (hr : Way r n) (hn : n ≤ 100) (hb : 0 ≤ box ∧ box ≤ 3) (hv : inV v) : ∃ r', spec_l3Put r box v = some r' ∧ Way r' (n + 1) ∧ r'.Code = r.Code := by
  unfold spec_l3Put
  rcases l3At_pos (hr.fitsP hn) box with ⟨h1, h2⟩ | ⟨k, h1, hk, h2⟩
  · rw [h1, Option.bind_some, show decide ((-1 : Int) ≥ 0) = false from by decide, cond_false]
    have n1 : (r.Puts.length + 1) * 16 ≤ 140737488355328 := by have := hr.plen; omega
    rw [need_pos n1]
    refine ⟨_, rfl, ⟨hr.val, hr.reads, allP_app hr.puts ⟨hb.1, hb.2, hv⟩ h2, ?_, ?_⟩, rfl⟩
    · have := hr.rlen
      simp only
      omega
    · have := hr.plen
      simp
      omega
  · rw [h1, Option.bind_some, show decide (((k : Nat) : Int) ≥ 0) = true from by simp, cond_true, idx_lt hk, Option.bind_some]
    refine ⟨_, rfl, ⟨hr.val, hr.reads, ?_, Nat.le_succ_of_le hr.rlen, ?_⟩, rfl⟩
    · simp only [Int.toNat_natCast]
      exact allP_set hr.puts hk hv
    · have := hr.plen
      simp
      omega
theorem step_ok {l : List TBox} {r : TRun} {n : Nat} {regs : List Int} {i : TIns} (hl : boxesOk l = true) (hr : Way r n) (hn : n ≤ 100) (hc : r.Code = 0) (hg : regsOk regs) (hi : insOk i = true) (h6 : i.Kind ≠ 6) :
    ∃ r' regs', spec_l3Step l r regs i = some (r', regs') ∧ Way r' (n + 1) ∧ regs'.length = 4 ∧ (r'.Code = 0 ∨ r'.Code = 1 ∨ r'.Code = 2) ∧ (r'.Code = 0 → regsOk regs') := by
  have hend : ∀ (regs' : List Int) (r' : TRun), Way r' (n + 1) → (r'.Code = 0 ∨ r'.Code = 1) → regs'.length = 4 → i.Kind ≠ 2 → (0 ≤ i.A ∧ i.A ≤ 3) → (∀ v, idx regs' i.A = some v → inV v → regsOk regs') →
      ∃ r2 regs2, spec_l3Step_j2 i regs' r'.Reads r'.Puts r'.Val r'.Code = some (r2, regs2) ∧ Way r2 (n + 1) ∧ regs2.length = 4 ∧ (r2.Code = 0 ∨ r2.Code = 1 ∨ r2.Code = 2) ∧ (r2.Code = 0 → regsOk regs2) := by
    intro regs' r' w1 w2 w3 w4 w5 w6
    obtain ⟨v, v1, v2⟩ := reg_at w3 w5
    have hk : (i.Kind != 2) = true := by simpa using w4
    unfold spec_l3Step_j2 spec_l3Step_j1
    rw [hk, cond_true, v1, Option.bind_some, l1Num_eq, Option.bind_some]
    cases hv : inR v (-1000000) 1000000
    · simp only [Bool.not_false, cond_true, Option.bind_some, Exc.go]
      exact ⟨_, _, rfl, ⟨w1.val, w1.reads, w1.puts, w1.rlen, w1.plen⟩, w3, .inr (.inr rfl), fun h => absurd h (show ¬ (2 : Int) = 0 from by decide)⟩
    · simp only [Bool.not_true, cond_false, Option.bind_some, Exc.go]
      have hv' : inV v := by simpa [inR, inV] using hv
      refine ⟨_, _, rfl, ⟨w1.val, w1.reads, w1.puts, w1.rlen, w1.plen⟩, w3, ?_, fun _ => w6 v v1 hv'⟩
      rcases w2 with w2 | w2
      · exact .inl w2
      · exact .inr (.inl w2)
  have hset : ∀ (a : Int) (x : Int), (0 ≤ a ∧ a ≤ 3) → (regs.set a.toNat x).length = 4 ∧ ∀ v, idx (regs.set a.toNat x) a = some v → inV v → regsOk (regs.set a.toNat x) := by
    intro a x ha
    have hlt : a.toNat < regs.length := by have := hg.1; omega
    refine ⟨by simpa using hg.1, fun v hv hin => ⟨by simpa using hg.1, fun w hw => ?_⟩⟩
    rcases reg_set hw with hw | rfl
    · exact hg.2 w hw
    · unfold idx at hv
      rw [if_pos ha.1, List.getElem?_set_self hlt] at hv
      injection hv with hv
      subst hv
      exact hin
  have hw1 : Way r (n + 1) := ⟨hr.val, hr.reads, hr.puts, Nat.le_succ_of_le hr.rlen, Nat.le_succ_of_le hr.plen⟩
  unfold spec_l3Step
  rcases insOk_parts hi with ⟨k, ha, hb⟩ | ⟨k, ha, hb⟩ | ⟨k, ha, hN⟩ | ⟨k, ha, hb⟩ | ⟨k, ha, hb⟩ | ⟨k, _⟩ | ⟨k, ha⟩
  · obtain ⟨v, r', q1, q2, q3, q4⟩ := look_ok hl hr hn hb
    obtain ⟨y, y1, _⟩ := reg_at hg.1 ha
    simp only [k, q1, y1, beq_self_eq_true, cond_true, Option.bind_some, Exc.go]
    exact hend _ r' q2 (.inl (q3.trans hc)) (hset i.A v ha).1 (by omega) ha (hset i.A v ha).2
  · obtain ⟨y, y1, y2⟩ := reg_at hg.1 hb
    obtain ⟨r', q1, q2, q3⟩ := put_ok hr hn ha (hg.2 y y2)
    have e1 : ((2 : Int) == 1) = false := by decide
    simp only [k, e1, y1, q1, beq_self_eq_true, cond_true, cond_false, Option.bind_some, Exc.go]
    unfold spec_l3Step_j2 spec_l3Step_j1
    simp only [k, bne_self_eq_false, cond_false, Option.bind_some, Exc.go]
    exact ⟨_, _, rfl, ⟨q2.val, q2.reads, q2.puts, q2.rlen, q2.plen⟩, hg.1, .inl (q3.trans hc), fun _ => hg⟩
  · obtain ⟨y, y1, _⟩ := reg_at hg.1 ha
    have e1 : ((3 : Int) == 1) = false := by decide
    have e2 : ((3 : Int) == 2) = false := by decide
    simp only [k, e1, e2, y1, beq_self_eq_true, cond_true, cond_false, Option.bind_some, Exc.go]
    exact hend _ r hw1 (.inl hc) (hset i.A i.N ha).1 (by omega) ha (hset i.A i.N ha).2
  · obtain ⟨y, y1, _⟩ := reg_at hg.1 ha
    obtain ⟨z, z1, _⟩ := reg_at hg.1 hb
    have e1 : ((4 : Int) == 1) = false := by decide
    have e2 : ((4 : Int) == 2) = false := by decide
    have e3 : ((4 : Int) == 3) = false := by decide
    simp only [k, e1, e2, e3, y1, z1, beq_self_eq_true, cond_true, cond_false, Option.bind_some, Exc.go]
    exact hend _ r hw1 (.inl hc) (hset i.A _ ha).1 (by omega) ha (hset i.A _ ha).2
  · obtain ⟨y, y1, _⟩ := reg_at hg.1 ha
    obtain ⟨z, z1, _⟩ := reg_at hg.1 hb
    have e1 : ((5 : Int) == 1) = false := by decide
    have e2 : ((5 : Int) == 2) = false := by decide
    have e3 : ((5 : Int) == 3) = false := by decide
    have e4 : ((5 : Int) == 4) = false := by decide
    simp only [k, e1, e2, e3, e4, y1, z1, beq_self_eq_true, cond_true, cond_false, Option.bind_some, Exc.go]
    exact hend _ r hw1 (.inl hc) (hset i.A _ ha).1 (by omega) ha (hset i.A _ ha).2
  · exact absurd k h6
  · have e1 : ((7 : Int) == 1) = false := by decide
    have e2 : ((7 : Int) == 2) = false := by decide
    have e3 : ((7 : Int) == 3) = false := by decide
    have e4 : ((7 : Int) == 4) = false := by decide
    have e5 : ((7 : Int) == 5) = false := by decide
    simp only [k, e1, e2, e3, e4, e5, beq_self_eq_true, cond_true, cond_false, Option.bind_some, Exc.go]
    have := hend regs ⟨r.Reads, r.Puts, r.Val, 1⟩ ⟨hw1.val, hw1.reads, hw1.puts, hw1.rlen, hw1.plen⟩ (.inr rfl) hg.1 (by omega) ⟨by omega, by omega⟩ (fun _ _ _ => hg)
    exact this

/-! ### All steps -/
/-- A run that came out of a program. -/
structure Ran (r : TRun) : Prop where
  ok : runOk r = true
  rlen : r.Reads.length ≤ 40
  plen : r.Puts.length ≤ 40
theorem way_ran {r : TRun} {n : Nat} (h : Way r n) (hn : n ≤ 40) (hc : r.Code = 0 ∨ r.Code = 1 ∨ r.Code = 2) {v : Int} (hv : r.Code = 0 → inV v) : Ran ⟨r.Reads, bif r.Code != 0 then [] else r.Puts, bif r.Code != 0 then r.Val else v, r.Code⟩ := by
  have h1 := h.rlen
  have h2 := h.plen
  have hR := h.reads
  have hP := h.puts
  have hP0 : allP [] = true := rfl
  rcases hc with hc | hc | hc
  · have hv := hv hc
    unfold inV at hv
    refine ⟨?_, by simp only; omega, by simp only [hc]; simp; omega⟩
    rw [runOk_iff]
    simp [hc, hR, hP, inR, hv]
  · refine ⟨?_, by simp only; omega, by simp [hc]⟩
    rw [runOk_iff]
    simp [hc, hR, hP0, inR, h.val]
  · refine ⟨?_, by simp only; omega, by simp [hc]⟩
    rw [runOk_iff]
    simp [hc, hR, hP0, inR, h.val]
theorem execRun_ok {l : List TBox} {prog : List TIns} (hl : Fits l) (hp : Fits prog) : ∃ r, spec_ExecRun l prog = some r ∧ (boxesOk l = true → Ran r) ∧ r.Reads.length ≤ 40 ∧ r.Puts.length ≤ 40 := by
  unfold spec_ExecRun
  rw [specBoxOk_eq hl, specProgOk_eq hp]
  have h0 : Ran ⟨[], [], 0, 3⟩ := ⟨by decide, by simp, by simp⟩
  cases hb : boxesOk l
  · exact ⟨_, rfl, (fun h => by cases h), by simp, by simp⟩
  cases hpo : progOk prog
  · exact ⟨_, rfl, fun _ => h0, by simp, by simp⟩
  simp only [Option.bind_some, Bool.not_true, cond_false]
  rw [need_pos (by decide)]
  have hlen : prog.length ≤ 10 := by
    unfold progOk at hpo
    simp only [Bool.and_eq_true, decide_eq_true_eq] at hpo
    exact hpo.1
  have hins : ∀ i ∈ prog, insOk i = true := by
    unfold progOk at hpo
    simp only [Bool.and_eq_true] at hpo
    exact List.all_eq_true.1 hpo.2
  obtain ⟨x, hx, hq⟩ := loop_inv (body := fun s : (List Int) × (List TRead) × (List TPut) × Int × Int × Int => spec_ExecRun_b1 l prog s.1 s.2.1 s.2.2.1 s.2.2.2.1 s.2.2.2.2.1 s.2.2.2.2.2)
    (fun m s => ∃ k : Nat, s.2.2.2.1 = (k : Int) ∧ k ≤ 30 ∧ k + m = 31 ∧ Way ⟨s.2.1, s.2.2.1, s.2.2.2.2.1, s.2.2.2.2.2⟩ k ∧ s.1.length = 4 ∧ (s.2.2.2.2.2 = 0 ∨ s.2.2.2.2.2 = 1 ∨ s.2.2.2.2.2 = 2) ∧ (s.2.2.2.2.2 = 0 → regsOk s.1))
    (fun x => match x with
      | .ret _ => False
      | .brk b => Way ⟨b.1, b.2.1, b.2.2.2.1, b.2.2.2.2⟩ 30 ∧ b.2.2.1.length = 4 ∧ (b.2.2.2.2 = 0 ∨ b.2.2.2.2 = 1 ∨ b.2.2.2.2 = 2) ∧ (b.2.2.2.2 = 0 → regsOk b.2.2.1))
    (by
      rintro m ⟨regs, Reads, Puts, kk, rVal, rCode⟩ ⟨k, hk, hk30, hm, hway, hreg, hcode, hrok⟩
      simp only at hk hway hreg hcode hrok ⊢
      subst hk
      have hend : Way ⟨Reads, Puts, rVal, rCode⟩ 30 := ⟨hway.val, hway.reads, hway.puts, Nat.le_trans hway.rlen hk30, Nat.le_trans hway.plen hk30⟩
      unfold spec_ExecRun_b1
      by_cases hlt : k < prog.length
      · rw [lt_len _ k hlt, idx_lt hlt]
        cases hc : rCode == 0
        · exact ⟨_, rfl, hend, hreg, hcode, hrok⟩
        have hc0 : rCode = 0 := by simpa using hc
        have hi := hins _ (List.getElem_mem hlt)
        simp only [cond_true, Option.bind_some]
        cases h6 : prog[k].Kind == 6
        · obtain ⟨r', regs', q1, q2, q3, q4, q5⟩ := step_ok hb hway (by omega) hc0 (hrok hc0) hi (by simpa using h6)
          simp only [cond_false, q1, Option.bind_some]
          rw [need_pos (by rw [q3]; exact hreg), w64_in (by omega) (by omega)]
          exact ⟨_, rfl, m - 1, by omega, k + 1, by simp, by omega, by omega, q2, q3, q4, q5⟩
        · have h6' : prog[k].Kind = 6 := by simpa using h6
          obtain ⟨_, ha, hbb, hN⟩ : prog[k].Kind = 6 ∧ (0 ≤ prog[k].A ∧ prog[k].A ≤ 3) ∧ (0 ≤ prog[k].B ∧ prog[k].B ≤ 3) ∧ (1 ≤ prog[k].N ∧ prog[k].N ≤ 10) := by
            rcases insOk_parts hi with ⟨q, _⟩ | ⟨q, _⟩ | ⟨q, _⟩ | ⟨q, _⟩ | ⟨q, _⟩ | q | ⟨q, _⟩
            · omega
            · omega
            · omega
            · omega
            · omega
            · exact q
            · omega
          obtain ⟨y, y1, _⟩ := reg_at hreg ha
          obtain ⟨z, z1, _⟩ := reg_at hreg hbb
          simp only [cond_true, y1, z1, Option.bind_some]
          have hw2 : ∀ j : Nat, k ≤ j → Way ⟨Reads, Puts, rVal, rCode⟩ (j + 1) := fun j h => ⟨hway.val, hway.reads, hway.puts, Nat.le_trans hway.rlen (by omega), Nat.le_trans hway.plen (by omega)⟩
          unfold spec_ExecRun_j1
          by_cases hyz : y < z
          · simp only [hyz, decide_true, cond_true, Option.bind_some, Exc.go]
            have e1 : w64 ((k : Int) + prog[k].N) = ((k + prog[k].N.toNat : Nat) : Int) := by
              rw [w64_in (n := (k : Int) + prog[k].N) (by omega) (by omega)]
              omega
            rw [e1, w64_in (n := ((k + prog[k].N.toNat : Nat) : Int) + 1) (by omega) (by omega)]
            exact ⟨_, rfl, 31 - (k + prog[k].N.toNat + 1), by omega, k + prog[k].N.toNat + 1, rfl, by omega, by omega, hw2 _ (by omega), hreg, hcode, hrok⟩
          · simp only [hyz, decide_false, cond_false, Option.bind_some, Exc.go]
            rw [w64_in (n := (k : Int) + 1) (by omega) (by omega)]
            exact ⟨_, rfl, 31 - (k + 1), by omega, k + 1, rfl, by omega, by omega, hw2 k (by omega), hreg, hcode, hrok⟩
      · have : decide ((k : Int) < (prog.length : Int)) = false := by simp; omega
        rw [this, cond_false]
        exact ⟨_, rfl, hend, hreg, hcode, hrok⟩) (k := 31) (s := (List.replicate (4 : Int).toNat 0, [], [], 0, 0, 0)) ⟨0, rfl, by omega, by omega, ⟨rfl, rfl, rfl, by simp, by simp⟩, rfl, .inl rfl, fun _ => ⟨rfl, by simp [inV]⟩⟩
  rw [hx, Option.bind_some]
  cases x with
  | ret r => cases hq
  | brk b =>
    obtain ⟨Reads, Puts, regs, rVal, rCode⟩ := b
    obtain ⟨q1, q2, q3, q4⟩ := hq
    simp only at q1 q2 q3 q4
    simp only [Exc.go]
    unfold spec_ExecRun_k2
    obtain ⟨v, v1, v2⟩ := reg_at q2 (a := 0) ⟨by omega, by omega⟩
    have hran := way_ran q1 (by omega) q3 (v := v) (fun h => (q4 h).2 v v2)
    have q1r := q1.rlen
    have q1p := q1.plen
    simp only at hran q1r q1p
    cases hc : rCode != 0
    · rw [hc] at hran
      simp only [cond_false, v1, Option.bind_some] at hran ⊢
      exact ⟨_, rfl, fun _ => hran, by simp only; omega, by simp only; omega⟩
    · rw [hc] at hran
      simp only [cond_true] at hran ⊢
      exact ⟨_, rfl, fun _ => hran, by simp only; omega, by simp⟩
end Go.Proofs.Ythefcgmhjonopaa
