/- Arguments of the laws laid open: whatever reads as such an argument is such data, of such a size. -/
import Derived.Test.YtpiaaeggofnphaaAm33
import Derived.Test.YtpiaaeggofnphaaTy
set_option linter.unusedVariables false
set_option linter.unusedSimpArgs false
namespace Go.Proofs.Ytpiaaeggofnphaa
open Go

theorem opens4 : Opens Try.prog 4 eB okT := opens_bool Try.underlying4
theorem opens3 : Opens Try.prog 3 eI okI := opens_int Try.underlying3
def okReq (x : TReq) : Prop := okI x.Who ∧ okI x.Seq
set_option maxRecDepth 100000 in
theorem opens35 : Opens Try.prog 35 eReq okReq := by
  intro H ec w fuel cs x h hw
  obtain ⟨xs, n, rfl, rfl, hl, hlen, hf⟩ := DataW.trod_struct Try.underlying35 h
  rw [show Try.prog.cellsOf 35 = 2 from by kernel_rfl] at hl
  match xs, hlen with
  | [y0, y1], _ =>
  match cs, hl with
  | [c0, c1], _ =>
  have h0 := hf 0 _ rfl
  rw [show Try.prog.cellsOf _ = 1 from by kernel_rfl] at h0
  have h1 := hf 1 _ rfl
  rw [show Try.prog.cellsOf _ = 1 from by kernel_rfl] at h1
  simp only [List.map, DataW.weights, Try.underlying35, DataW.weightsEach, List.all_append, Bool.and_eq_true] at hw
  obtain ⟨z0, a0, b0⟩ := opens3 ec w n [c0] y0 h0 hw.1
  obtain ⟨z1, a1, b1⟩ := opens3 ec w n [c1] y1 h1 hw.2.1
  exact ⟨⟨z0, z1⟩, a0.append a1, b0, b1⟩
def okRead (x : TRead) : Prop := okI x.Box ∧ okI x.Ver
set_option maxRecDepth 100000 in
theorem opens99 : Opens Try.prog 99 eRead okRead := by
  intro H ec w fuel cs x h hw
  obtain ⟨xs, n, rfl, rfl, hl, hlen, hf⟩ := DataW.trod_struct Try.underlying99 h
  rw [show Try.prog.cellsOf 99 = 2 from by kernel_rfl] at hl
  match xs, hlen with
  | [y0, y1], _ =>
  match cs, hl with
  | [c0, c1], _ =>
  have h0 := hf 0 _ rfl
  rw [show Try.prog.cellsOf _ = 1 from by kernel_rfl] at h0
  have h1 := hf 1 _ rfl
  rw [show Try.prog.cellsOf _ = 1 from by kernel_rfl] at h1
  simp only [List.map, DataW.weights, Try.underlying99, DataW.weightsEach, List.all_append, Bool.and_eq_true] at hw
  obtain ⟨z0, a0, b0⟩ := opens3 ec w n [c0] y0 h0 hw.1
  obtain ⟨z1, a1, b1⟩ := opens3 ec w n [c1] y1 h1 hw.2.1
  exact ⟨⟨z0, z1⟩, a0.append a1, b0, b1⟩
theorem opens36 : Opens Try.prog 36 (fun l : List TRead => [vsl 2 eRead l]) (okL 16 okRead) := opens_slice Try.underlying36 opens99 (by kernel_rfl) (by decide) (by kernel_rfl) (fun _ => rfl)
def okPut (x : TPut) : Prop := okI x.Box ∧ okI x.Val
set_option maxRecDepth 100000 in
theorem opens101 : Opens Try.prog 101 ePut okPut := by
  intro H ec w fuel cs x h hw
  obtain ⟨xs, n, rfl, rfl, hl, hlen, hf⟩ := DataW.trod_struct Try.underlying101 h
  rw [show Try.prog.cellsOf 101 = 2 from by kernel_rfl] at hl
  match xs, hlen with
  | [y0, y1], _ =>
  match cs, hl with
  | [c0, c1], _ =>
  have h0 := hf 0 _ rfl
  rw [show Try.prog.cellsOf _ = 1 from by kernel_rfl] at h0
  have h1 := hf 1 _ rfl
  rw [show Try.prog.cellsOf _ = 1 from by kernel_rfl] at h1
  simp only [List.map, DataW.weights, Try.underlying101, DataW.weightsEach, List.all_append, Bool.and_eq_true] at hw
  obtain ⟨z0, a0, b0⟩ := opens3 ec w n [c0] y0 h0 hw.1
  obtain ⟨z1, a1, b1⟩ := opens3 ec w n [c1] y1 h1 hw.2.1
  exact ⟨⟨z0, z1⟩, a0.append a1, b0, b1⟩
theorem opens37 : Opens Try.prog 37 (fun l : List TPut => [vsl 2 ePut l]) (okL 16 okPut) := opens_slice Try.underlying37 opens101 (by kernel_rfl) (by decide) (by kernel_rfl) (fun _ => rfl)
def okRun (x : TRun) : Prop := (okL 16 okRead) x.Reads ∧ (okL 16 okPut) x.Puts ∧ okI x.Val ∧ okI x.Code
set_option maxRecDepth 100000 in
theorem opens39 : Opens Try.prog 39 eRun okRun := by
  intro H ec w fuel cs x h hw
  obtain ⟨xs, n, rfl, rfl, hl, hlen, hf⟩ := DataW.trod_struct Try.underlying39 h
  rw [show Try.prog.cellsOf 39 = 4 from by kernel_rfl] at hl
  match xs, hlen with
  | [y0, y1, y2, y3], _ =>
  match cs, hl with
  | [c0, c1, c2, c3], _ =>
  have h0 := hf 0 _ rfl
  rw [show Try.prog.cellsOf _ = 1 from by kernel_rfl] at h0
  have h1 := hf 1 _ rfl
  rw [show Try.prog.cellsOf _ = 1 from by kernel_rfl] at h1
  have h2 := hf 2 _ rfl
  rw [show Try.prog.cellsOf _ = 1 from by kernel_rfl] at h2
  have h3 := hf 3 _ rfl
  rw [show Try.prog.cellsOf _ = 1 from by kernel_rfl] at h3
  simp only [List.map, DataW.weights, Try.underlying39, DataW.weightsEach, List.all_append, Bool.and_eq_true] at hw
  obtain ⟨z0, a0, b0⟩ := opens36 ec w n [c0] y0 h0 hw.1
  obtain ⟨z1, a1, b1⟩ := opens37 ec w n [c1] y1 h1 hw.2.1
  obtain ⟨z2, a2, b2⟩ := opens3 ec w n [c2] y2 h2 hw.2.2.1
  obtain ⟨z3, a3, b3⟩ := opens3 ec w n [c3] y3 h3 hw.2.2.2.1
  exact ⟨⟨z0, z1, z2, z3⟩, a0.append (a1.append (a2.append a3)), b0, b1, b2, b3⟩
def okEntry (x : TEntry) : Prop := okReq x.Req ∧ okRun x.Run
set_option maxRecDepth 100000 in
theorem opens41 : Opens Try.prog 41 eEntry okEntry := by
  intro H ec w fuel cs x h hw
  obtain ⟨xs, n, rfl, rfl, hl, hlen, hf⟩ := DataW.trod_struct Try.underlying41 h
  rw [show Try.prog.cellsOf 41 = 7 from by kernel_rfl] at hl
  match xs, hlen with
  | [y0, y1, y2], _ =>
  match cs, hl with
  | [c0, c1, c2, c3, c4, c5, c6], _ =>
  have h0 := hf 0 _ rfl
  rw [show Try.prog.cellsOf _ = 1 from by kernel_rfl] at h0
  have h1 := hf 1 _ rfl
  rw [show Try.prog.cellsOf _ = 2 from by kernel_rfl] at h1
  have h2 := hf 2 _ rfl
  rw [show Try.prog.cellsOf _ = 4 from by kernel_rfl] at h2
  simp only [List.map, DataW.weights, Try.underlying41, DataW.weightsEach, List.all_append, Bool.and_eq_true] at hw
  obtain ⟨z0, a0, b0⟩ := opens4 ec w n [c0] y0 h0 hw.1
  obtain ⟨z1, a1, b1⟩ := opens35 ec w n [c1, c2] y1 h1 hw.2.1
  obtain ⟨z2, a2, b2⟩ := opens39 ec w n [c3, c4, c5, c6] y2 h2 hw.2.2.1
  exact ⟨⟨z0, z1, z2⟩, a0.append (a1.append a2), b1, b2⟩
theorem opens22 : Opens Try.prog 22 (fun l : List TEntry => [vsl 7 eEntry l]) (okL 88 okEntry) := opens_slice Try.underlying22 opens41 (by kernel_rfl) (by decide) (by kernel_rfl) (fun _ => rfl)

end Go.Proofs.Ytpiaaeggofnphaa
