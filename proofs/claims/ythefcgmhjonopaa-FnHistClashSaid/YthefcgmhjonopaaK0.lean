/- Entries that clash: the two sides are one. -/
import Derived.Test.YthefcgmhjonopaaC0
set_option linter.unusedVariables false
set_option linter.unusedSimpArgs false
namespace Go.Proofs.Ythefcgmhjonopaa
open Go

/-- Clashes in the first boxes, of the entries ahead, of all. -/
def cl3 (P : Nat → Nat → Nat → Bool) (i k : Nat) : Nat → List TClash
  | 0 => []
  | n + 1 => cl3 P i k n ++ (bif P i k n then [⟨(i : Int), (k : Int), (n : Int)⟩] else [])
def cl2 (P : Nat → Nat → Nat → Bool) (i : Nat) : Nat → List TClash
  | 0 => []
  | d + 1 => cl2 P i d ++ cl3 P i (i + 1 + d) 4
def cl1 (P : Nat → Nat → Nat → Bool) (L : Nat) : Nat → List TClash
  | 0 => []
  | n + 1 => cl1 P L n ++ cl2 P n (L - (n + 1))
theorem cl3_len (P : Nat → Nat → Nat → Bool) (i k : Nat) : ∀ n, (cl3 P i k n).length ≤ n
  | 0 => by simp [cl3]
  | n + 1 => by
    have := cl3_len P i k n
    unfold cl3
    cases P i k n <;> simp <;> omega
theorem cl2_len (P : Nat → Nat → Nat → Bool) (i : Nat) : ∀ d, (cl2 P i d).length ≤ 4 * d
  | 0 => by simp [cl2]
  | d + 1 => by
    have := cl2_len P i d
    have := cl3_len P i (i + 1 + d) 4
    unfold cl2
    rw [List.length_append]
    omega
theorem cl1_len (P : Nat → Nat → Nat → Bool) {L : Nat} (hL : L ≤ 40) : ∀ n, (cl1 P L n).length ≤ 160 * n
  | 0 => by simp [cl1]
  | n + 1 => by
    have := cl1_len P hL n
    have := cl2_len P n (L - (n + 1))
    unfold cl1
    rw [List.length_append]
    omega
def both (l : List TEntry) (cs : List Int) (i k b : Nat) : Bool := match cs[i]?, cs[k]?, l[i]?, l[k]? with
  | some c, some d, some x, some y => c == 0 && (d == 0 && clashes x.Run y.Run (b : Int))
  | _, _, _, _ => false
theorem both_at {l : List TEntry} {cs : List Int} {i k : Nat} (h1 : i < l.length) (h2 : k < l.length) (h3 : i < cs.length) (h4 : k < cs.length) (b : Nat) : both l cs i k b = (cs[i] == 0 && (cs[k] == 0 && clashes l[i].Run l[k].Run (b : Int))) := by
  unfold both
  rw [List.getElem?_eq_getElem h1, List.getElem?_eq_getElem h2, List.getElem?_eq_getElem h3, List.getElem?_eq_getElem h4]
def histClashes (l : List TEntry) : List TClash := bif listOk l then cl1 (both l (folded l).2) l.length l.length else []
theorem fits24 {out : List TClash} (h : out.length ≤ 10000) : (out.length + 1) * 24 ≤ 140737488355328 := by omega

section
variable {l : List TEntry}
theorem spec3 (h : okL 88 fEntry l) (hl : l.length ≤ 40) {cs : List Int} (hc : cs.length = l.length) {i k : Nat} (hi : i < l.length) (hk : k < l.length) {out : List TClash} (ho : out.length ≤ 9000) :
    loop (fun s : (List TClash) × Int => spec_HistClashes_b1 l cs (i : Int) (k : Int) s.1 s.2) (out, 0) = some (.brk (out ++ cl3 (both l cs) i k 4)) := by
  have hloop := loop_to (body := fun s : (List TClash) × Int => spec_HistClashes_b1 l cs (i : Int) (k : Int) s.1 s.2) (fun n => (out ++ cl3 (both l cs) i k n, (n : Int))) 4 (by
    intro n hn
    have h3 := cl3_len (both l cs) i k n
    have n1 := fits24 (out := out ++ cl3 (both l cs) i k n) (by rw [List.length_append]; omega)
    show spec_HistClashes_b1 l cs (i : Int) (k : Int) (out ++ cl3 (both l cs) i k n) (n : Int) = some (.nxt (out ++ (cl3 (both l cs) i k n ++ (bif both l cs i k n then [⟨(i : Int), (k : Int), (n : Int)⟩] else [])), ((n + 1 : Nat) : Int)))
    rw [both_at hi hk (by omega) (by omega), ← List.append_assoc]
    unfold spec_HistClashes_b1 spec_HistClashes_j1
    have hn4 : decide ((n : Int) < 4) = true := by simp; omega
    rw [hn4, idx_lt (show i < cs.length by omega), idx_lt (show k < cs.length by omega), idx_lt hi, idx_lt hk, w64_in (by omega) (by omega)]
    simp only [cond_true, Option.bind_some, l13Clash_eq (h.2 _ (List.getElem_mem hi)).2 (h.2 _ (List.getElem_mem hk)).2]
    cases cs[i] == 0 <;> cases cs[k] == 0 <;> cases clashes l[i].Run l[k].Run (n : Int) <;> simp only [need_pos n1, cond_true, cond_false, Option.bind_some, Exc.go, Bool.and_true, Bool.and_false, Bool.true_and, Bool.false_and, List.append_nil] <;> rfl)
  rw [show ((0 : Nat) : Int) = 0 from rfl, show cl3 (both l cs) i k 0 = [] from rfl, List.append_nil] at hloop
  rw [hloop]
  exact loop_brk rfl
theorem impl3 (h : okL 88 fEntry l) (hl : l.length ≤ 40) {fl : TState × List Int} (hc : fl.2.length = l.length) {i k : Nat} (hi : i < l.length) (hk : k < l.length) {out : List TClash} (ho : out.length ≤ 9000) :
    loop (fun s : (List TClash) × Int => impl_HistClashes_b1 l fl (i : Int) (k : Int) s.1 s.2) (out, 0) = some (.brk (out ++ cl3 (both l fl.2) i k 4)) := by
  have hi2 : i < fl.2.length := by omega
  have hk2 : k < fl.2.length := by omega
  cases hz : (fl.2[i] == 0 && fl.2[k] == 0)
  · have hnone : ∀ n, cl3 (both l fl.2) i k n = [] := by
      intro n
      induction n with
      | zero => rfl
      | succ n ih =>
        show cl3 (both l fl.2) i k n ++ _ = []
        have hb : both l fl.2 i k n = false := by
          rw [both_at hi hk hi2 hk2]
          cases h1 : fl.2[i] == 0 <;> cases h2 : fl.2[k] == 0 <;> simp_all
        rw [ih, hb]; rfl
    rw [hnone, List.append_nil]
    refine loop_brk ?_
    unfold impl_HistClashes_b1
    rw [show decide ((0 : Int) < 4) = true from by decide, idx_lt hi2, idx_lt hk2]
    cases h1 : fl.2[i] == 0
    · simp [h1]
    · rw [h1, Bool.true_and] at hz
      simp [h1, hz]
  · have hz' : (fl.2[i] == 0) = true ∧ (fl.2[k] == 0) = true := by simpa using hz
    have hloop := loop_to (body := fun s : (List TClash) × Int => impl_HistClashes_b1 l fl (i : Int) (k : Int) s.1 s.2) (fun n => (out ++ cl3 (both l fl.2) i k n, (n : Int))) 4 (by
      intro n hn
      have h3 := cl3_len (both l fl.2) i k n
      have n1 := fits24 (out := out ++ cl3 (both l fl.2) i k n) (by rw [List.length_append]; omega)
      show impl_HistClashes_b1 l fl (i : Int) (k : Int) (out ++ cl3 (both l fl.2) i k n) (n : Int) = some (.nxt (out ++ (cl3 (both l fl.2) i k n ++ (bif both l fl.2 i k n then [⟨(i : Int), (k : Int), (n : Int)⟩] else [])), ((n + 1 : Nat) : Int)))
      rw [both_at hi hk hi2 hk2, ← List.append_assoc, hz'.1, hz'.2]
      unfold impl_HistClashes_b1 impl_HistClashes_j1
      have hn4 : decide ((n : Int) < 4) = true := by simp; omega
      rw [hn4, idx_lt hi2, idx_lt hk2, idx_lt hi, idx_lt hk, w64_in (by omega) (by omega)]
      simp only [cond_true, Option.bind_some, hz'.1, hz'.2, clash_eq (h.2 _ (List.getElem_mem hi)).2 (h.2 _ (List.getElem_mem hk)).2]
      cases clashes l[i].Run l[k].Run (n : Int) <;> simp only [need_pos n1, cond_true, cond_false, Option.bind_some, Exc.go, Bool.and_true, Bool.and_false, Bool.true_and, Bool.false_and, List.append_nil] <;> rfl)
    rw [show ((0 : Nat) : Int) = 0 from rfl, show cl3 (both l fl.2) i k 0 = [] from rfl, List.append_nil] at hloop
    rw [hloop]
    exact loop_brk rfl
theorem spec2 (h : okL 88 fEntry l) (hl : l.length ≤ 40) {cs : List Int} (hc : cs.length = l.length) {i : Nat} (hi : i < l.length) {out : List TClash} (ho : out.length ≤ 8000) :
    loop (fun s : (List TClash) × Int => spec_HistClashes_b2 l cs (i : Int) s.1 s.2) (out, ((i + 1 : Nat) : Int)) = some (.brk (out ++ cl2 (both l cs) i (l.length - (i + 1)))) := by
  have hloop := loop_to (body := fun s : (List TClash) × Int => spec_HistClashes_b2 l cs (i : Int) s.1 s.2) (fun d => (out ++ cl2 (both l cs) i d, ((i + 1 + d : Nat) : Int))) (l.length - (i + 1)) (by
    intro d hd
    have h2 := cl2_len (both l cs) i d
    have hk : i + 1 + d < l.length := by omega
    show spec_HistClashes_b2 l cs (i : Int) (out ++ cl2 (both l cs) i d) ((i + 1 + d : Nat) : Int) = some (.nxt (out ++ (cl2 (both l cs) i d ++ cl3 (both l cs) i (i + 1 + d) 4), ((i + 1 + (d + 1) : Nat) : Int)))
    unfold spec_HistClashes_b2 spec_HistClashes_k8
    rw [lt_len l _ hk, cond_true, spec3 h hl hc hi hk (by rw [List.length_append]; omega)]
    simp only [Option.bind_some, Exc.go, List.append_assoc]
    rw [w64_in (by omega) (by omega)]
    rfl)
  rw [show cl2 (both l cs) i 0 = [] from rfl, List.append_nil, Nat.add_zero, show i + 1 + (l.length - (i + 1)) = l.length from by omega] at hloop
  rw [hloop]
  refine loop_brk ?_
  unfold spec_HistClashes_b2
  rw [nlt_len]; rfl
theorem impl2 (h : okL 88 fEntry l) (hl : l.length ≤ 40) {fl : TState × List Int} (hc : fl.2.length = l.length) {i : Nat} (hi : i < l.length) {out : List TClash} (ho : out.length ≤ 8000) :
    loop (fun s : (List TClash) × Int => impl_HistClashes_b2 l fl (i : Int) s.1 s.2) (out, ((i + 1 : Nat) : Int)) = some (.brk (out ++ cl2 (both l fl.2) i (l.length - (i + 1)))) := by
  have hloop := loop_to (body := fun s : (List TClash) × Int => impl_HistClashes_b2 l fl (i : Int) s.1 s.2) (fun d => (out ++ cl2 (both l fl.2) i d, ((i + 1 + d : Nat) : Int))) (l.length - (i + 1)) (by
    intro d hd
    have h2 := cl2_len (both l fl.2) i d
    have hk : i + 1 + d < l.length := by omega
    show impl_HistClashes_b2 l fl (i : Int) (out ++ cl2 (both l fl.2) i d) ((i + 1 + d : Nat) : Int) = some (.nxt (out ++ (cl2 (both l fl.2) i d ++ cl3 (both l fl.2) i (i + 1 + d) 4), ((i + 1 + (d + 1) : Nat) : Int)))
    unfold impl_HistClashes_b2 impl_HistClashes_k8
    rw [lt_len l _ hk, cond_true, impl3 h hl hc hi hk (by rw [List.length_append]; omega)]
    simp only [Option.bind_some, Exc.go, List.append_assoc]
    rw [w64_in (by omega) (by omega)]
    rfl)
  rw [show cl2 (both l fl.2) i 0 = [] from rfl, List.append_nil, Nat.add_zero, show i + 1 + (l.length - (i + 1)) = l.length from by omega] at hloop
  rw [hloop]
  refine loop_brk ?_
  unfold impl_HistClashes_b2
  rw [nlt_len]; rfl
theorem specClashes_eq (h : okL 88 fEntry l) : spec_HistClashes l = some (histClashes l) := by
  unfold spec_HistClashes histClashes
  rw [specList_eq h, Option.bind_some]
  cases hok : listOk l
  · rfl
  have hf : Fits l := h.fits (by decide)
  obtain ⟨hl, he⟩ := listOk_parts hok
  obtain ⟨_, hlen, hc⟩ := folded_inv hl he l.length (Nat.le_refl _)
  rw [List.take_length] at hlen hc
  rw [Bool.not_true, cond_false, cond_true, specCodes_eq h hl he, Option.bind_some]
  have hloop := loop_to (body := fun s : (List TClash) × Int => spec_HistClashes_b3 l (folded l).2 s.1 s.2) (fun n => (cl1 (both l (folded l).2) l.length n, (n : Int))) l.length (by
    intro n hn
    have h1 := cl1_len (both l (folded l).2) hl n
    show spec_HistClashes_b3 l (folded l).2 (cl1 (both l (folded l).2) l.length n) (n : Int) = some (.nxt (cl1 (both l (folded l).2) l.length n ++ cl2 (both l (folded l).2) n (l.length - (n + 1)), ((n + 1 : Nat) : Int)))
    unfold spec_HistClashes_b3 spec_HistClashes_k5
    rw [lt_len l _ hn, cond_true, w64_next hf hn, spec2 h hl hlen hn (by omega)]
    rfl)
  rw [show ((0 : Nat) : Int) = 0 from rfl] at hloop
  rw [show loop (fun s : (List TClash) × Int => spec_HistClashes_b3 l (folded l).2 s.1 s.2) (([] : List TClash), 0) = _ from hloop, loop_brk (b := cl1 (both l (folded l).2) l.length l.length)]
  · rfl
  · unfold spec_HistClashes_b3
    rw [nlt_len]; rfl
theorem copiedClash_eq {l : List TClash} (h : l.length * 24 ≤ 140737488351232) : impl_copied_Clash l = some l := by
  unfold impl_copied_Clash need
  cases l with
  | nil => rfl
  | cons x l =>
    have h1 : (((x :: l).length : Int) == 0) = false := by simp; omega
    rw [h1, cond_false, if_pos (by constructor <;> omega), if_pos (by simp)]
theorem implClashes_eq (h : okL 88 fEntry l) : impl_HistClashes l = some (histClashes l) := by
  unfold impl_HistClashes histClashes
  rw [implList_eq h, Option.bind_some]
  cases hok : listOk l
  · rfl
  have hf : Fits l := h.fits (by decide)
  obtain ⟨hl, he⟩ := listOk_parts hok
  obtain ⟨_, hlen, hc⟩ := folded_inv hl he l.length (Nat.le_refl _)
  rw [List.take_length] at hlen hc
  rw [Bool.not_true, cond_false, cond_true, implFolded_eq h hl he, Option.bind_some]
  have hloop := loop_to (body := fun s : (List TClash) × Int => impl_HistClashes_b3 l (folded l) s.1 s.2) (fun n => (cl1 (both l (folded l).2) l.length n, (n : Int))) l.length (by
    intro n hn
    have h1 := cl1_len (both l (folded l).2) hl n
    show impl_HistClashes_b3 l (folded l) (cl1 (both l (folded l).2) l.length n) (n : Int) = some (.nxt (cl1 (both l (folded l).2) l.length n ++ cl2 (both l (folded l).2) n (l.length - (n + 1)), ((n + 1 : Nat) : Int)))
    unfold impl_HistClashes_b3 impl_HistClashes_k5
    rw [lt_len l _ hn, cond_true, w64_next hf hn, impl2 h hl hlen hn (by omega)]
    rfl)
  rw [show ((0 : Nat) : Int) = 0 from rfl] at hloop
  rw [show loop (fun s : (List TClash) × Int => impl_HistClashes_b3 l (folded l) s.1 s.2) ([], 0) = _ from hloop, loop_brk (b := cl1 (both l (folded l).2) l.length l.length)]
  · simp only [Option.bind_some, Exc.go]
    unfold impl_HistClashes_k2
    rw [copiedClash_eq (by have := cl1_len (both l (folded l).2) hl l.length; omega)]
    rfl
  · unfold impl_HistClashes_b3
    rw [nlt_len]; rfl
end

/-! ### What is among the clashes -/
theorem cl3_mem {P : Nat → Nat → Nat → Bool} {i k : Nat} : ∀ {n : Nat} {x : TClash}, x ∈ cl3 P i k n ↔ ∃ b, b < n ∧ P i k b = true ∧ x = ⟨(i : Int), (k : Int), (b : Int)⟩
  | 0, x => by simp [cl3]
  | n + 1, x => by
    unfold cl3
    rw [List.mem_append, cl3_mem]
    constructor
    · rintro (⟨b, h1, h2, h3⟩ | h)
      · exact ⟨b, by omega, h2, h3⟩
      · cases hp : P i k n with
        | false => rw [hp] at h; simp at h
        | true => rw [hp] at h; exact ⟨n, by omega, hp, by simpa using h⟩
    · rintro ⟨b, h1, h2, h3⟩
      by_cases hb : b = n
      · subst hb
        rw [h2]
        exact .inr (by simp [h3])
      · exact .inl ⟨b, by omega, h2, h3⟩
theorem cl2_mem {P : Nat → Nat → Nat → Bool} {i : Nat} : ∀ {d : Nat} {x : TClash}, x ∈ cl2 P i d ↔ ∃ k b, i < k ∧ k < i + 1 + d ∧ b < 4 ∧ P i k b = true ∧ x = ⟨(i : Int), (k : Int), (b : Int)⟩
  | 0, x => by
    simp only [cl2, List.not_mem_nil, false_iff]
    rintro ⟨k, b, h1, h2, _⟩
    omega
  | d + 1, x => by
    unfold cl2
    rw [List.mem_append, cl2_mem, cl3_mem]
    constructor
    · rintro (⟨k, b, h1, h2, h3⟩ | ⟨b, h1, h2, h3⟩)
      · exact ⟨k, b, h1, by omega, h3⟩
      · exact ⟨i + 1 + d, b, by omega, by omega, h1, h2, h3⟩
    · rintro ⟨k, b, h1, h2, h3, h4, h5⟩
      by_cases hk : k = i + 1 + d
      · subst hk
        exact .inr ⟨b, h3, h4, h5⟩
      · exact .inl ⟨k, b, h1, by omega, h3, h4, h5⟩
theorem cl1_mem {P : Nat → Nat → Nat → Bool} {L : Nat} : ∀ {n : Nat} {x : TClash}, n ≤ L → (x ∈ cl1 P L n ↔ ∃ i k b, i < n ∧ i < k ∧ k < L ∧ b < 4 ∧ P i k b = true ∧ x = ⟨(i : Int), (k : Int), (b : Int)⟩)
  | 0, x, _ => by simp [cl1]
  | n + 1, x, hn => by
    unfold cl1
    rw [List.mem_append, cl1_mem (by omega), cl2_mem]
    constructor
    · rintro (⟨i, k, b, h1, h2⟩ | ⟨k, b, h1, h2, h3⟩)
      · exact ⟨i, k, b, by omega, h2⟩
      · exact ⟨n, k, b, by omega, h1, by omega, h3⟩
    · rintro ⟨i, k, b, h1, h2, h3, h4, h5⟩
      by_cases hi : i = n
      · subst hi
        exact .inr ⟨k, b, h2, by omega, h4, h5⟩
      · exact .inl ⟨i, k, b, by omega, h2, h3, h4, h5⟩
theorem cl3_nodup (P : Nat → Nat → Nat → Bool) (i k : Nat) : ∀ n, (cl3 P i k n).Pairwise (· ≠ ·)
  | 0 => by simp [cl3]
  | n + 1 => by
    unfold cl3
    rw [List.pairwise_append]
    refine ⟨cl3_nodup P i k n, by cases P i k n <;> simp, fun a ha b hb => ?_⟩
    obtain ⟨c, h1, _, h3⟩ := cl3_mem.1 ha
    cases hp : P i k n with
    | false => rw [hp] at hb; simp at hb
    | true =>
      rw [hp] at hb
      have hb : b = ⟨(i : Int), (k : Int), (n : Int)⟩ := by simpa using hb
      rw [h3, hb]
      intro h
      injection h with _ _ h
      omega
theorem cl2_nodup (P : Nat → Nat → Nat → Bool) (i : Nat) : ∀ d, (cl2 P i d).Pairwise (· ≠ ·)
  | 0 => by simp [cl2]
  | d + 1 => by
    unfold cl2
    rw [List.pairwise_append]
    refine ⟨cl2_nodup P i d, cl3_nodup _ _ _ _, fun a ha b hb => ?_⟩
    obtain ⟨k, c, h1, h2, _, _, h3⟩ := cl2_mem.1 ha
    obtain ⟨c', _, _, h4⟩ := cl3_mem.1 hb
    rw [h3, h4]
    intro h
    injection h with _ h _
    omega
theorem cl1_nodup (P : Nat → Nat → Nat → Bool) (L : Nat) : ∀ n, n ≤ L → (cl1 P L n).Pairwise (· ≠ ·)
  | 0, _ => by simp [cl1]
  | n + 1, hn => by
    unfold cl1
    rw [List.pairwise_append]
    refine ⟨cl1_nodup P L n (by omega), cl2_nodup _ _ _, fun a ha b hb => ?_⟩
    obtain ⟨i, k, c, h1, _, _, _, _, h3⟩ := (cl1_mem (show n ≤ L by omega)).1 ha
    obtain ⟨k', c', _, _, _, _, h4⟩ := cl2_mem.1 hb
    rw [h3, h4]
    intro h
    injection h with h _ _
    omega
/-- A request that was done is told. -/
theorem told_mem {l : List TEntry} {cs : List Int} (hc : cs.length = l.length) : ∀ {n : Nat} {q : TReq}, n ≤ l.length → (q ∈ told l cs n ↔ ∃ (k : Nat) (e : TEntry), k < n ∧ l[k]? = some e ∧ cs[k]? = some 0 ∧ q = e.Req)
  | 0, q, _ => by simp [told]
  | n + 1, q, hn => by
    have h1 : n < l.length := by omega
    have h2 : n < cs.length := by omega
    unfold told
    rw [List.mem_append, told_mem hc (by omega), toldStep_at h1 h2]
    constructor
    · rintro (⟨k, e, a, b⟩ | h)
      · exact ⟨k, e, by omega, b⟩
      · cases hz : cs[n] == 0 with
        | false => rw [hz] at h; simp at h
        | true =>
          rw [hz] at h
          have hz' : cs[n] = 0 := by simpa using hz
          exact ⟨n, l[n], by omega, List.getElem?_eq_getElem h1, by rw [List.getElem?_eq_getElem h2, hz'], by simpa using h⟩
    · rintro ⟨k, e, a, b, c, d⟩
      by_cases hk : k = n
      · subst hk
        rw [List.getElem?_eq_getElem h1] at b
        rw [List.getElem?_eq_getElem h2] at c
        injection b with b
        injection c with c
        right
        rw [c, d, ← b]
        simp
      · exact .inl ⟨k, e, by omega, b, c, d⟩
end Go.Proofs.Ythefcgmhjonopaa
