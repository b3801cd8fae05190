/- Arguments of the laws laid open: whatever reads as such an argument is such data, of such a size. -/
import Derived.Test.YthegkbaijmkhfaaAm33
import Derived.Test.YthegkbaijmkhfaaTy
set_option linter.unusedVariables false
set_option linter.unusedSimpArgs false
namespace Go.Proofs.Ythegkbaijmkhfaa
open Go

theorem opens3 : Opens Try.prog 3 eI okI := opens_int Try.underlying3
theorem opens4 : Opens Try.prog 4 eB okT := opens_bool Try.underlying4
def okReq (x : TReq) : Prop := okI x.Who ∧ okI x.Seq
set_option maxRecDepth 100000 in
theorem opens29 : Opens Try.prog 29 eReq okReq := by
  intro H ec w fuel cs x h hw
  obtain ⟨xs, n, rfl, rfl, hl, hlen, hf⟩ := DataW.trod_struct Try.underlying29 h
  rw [show Try.prog.cellsOf 29 = 2 from by kernel_rfl] at hl
  match xs, hlen with
  | [y0, y1], _ =>
  match cs, hl with
  | [c0, c1], _ =>
  have h0 := hf 0 _ rfl
  rw [show Try.prog.cellsOf _ = 1 from by kernel_rfl] at h0
  have h1 := hf 1 _ rfl
  rw [show Try.prog.cellsOf _ = 1 from by kernel_rfl] at h1
  simp only [List.map, DataW.weights, Try.underlying29, DataW.weightsEach, List.all_append, Bool.and_eq_true] at hw
  obtain ⟨z0, a0, b0⟩ := opens3 ec w n [c0] y0 h0 hw.1
  obtain ⟨z1, a1, b1⟩ := opens3 ec w n [c1] y1 h1 hw.2.1
  exact ⟨⟨z0, z1⟩, a0.append a1, b0, b1⟩
def okRead (x : TRead) : Prop := okI x.Box ∧ okI x.Ver
set_option maxRecDepth 100000 in
theorem opens162 : Opens Try.prog 162 eRead okRead := by
  intro H ec w fuel cs x h hw
  obtain ⟨xs, n, rfl, rfl, hl, hlen, hf⟩ := DataW.trod_struct Try.underlying162 h
  rw [show Try.prog.cellsOf 162 = 2 from by kernel_rfl] at hl
  match xs, hlen with
  | [y0, y1], _ =>
  match cs, hl with
  | [c0, c1], _ =>
  have h0 := hf 0 _ rfl
  rw [show Try.prog.cellsOf _ = 1 from by kernel_rfl] at h0
  have h1 := hf 1 _ rfl
  rw [show Try.prog.cellsOf _ = 1 from by kernel_rfl] at h1
  simp only [List.map, DataW.weights, Try.underlying162, DataW.weightsEach, List.all_append, Bool.and_eq_true] at hw
  obtain ⟨z0, a0, b0⟩ := opens3 ec w n [c0] y0 h0 hw.1
  obtain ⟨z1, a1, b1⟩ := opens3 ec w n [c1] y1 h1 hw.2.1
  exact ⟨⟨z0, z1⟩, a0.append a1, b0, b1⟩
theorem opens76 : Opens Try.prog 76 (fun l : List TRead => [vsl 2 eRead l]) (okL 16 okRead) := opens_slice Try.underlying76 opens162 (by kernel_rfl) (by decide) (by kernel_rfl) (fun _ => rfl)
def okPut (x : TPut) : Prop := okI x.Box ∧ okI x.Val
set_option maxRecDepth 100000 in
theorem opens164 : Opens Try.prog 164 ePut okPut := by
  intro H ec w fuel cs x h hw
  obtain ⟨xs, n, rfl, rfl, hl, hlen, hf⟩ := DataW.trod_struct Try.underlying164 h
  rw [show Try.prog.cellsOf 164 = 2 from by kernel_rfl] at hl
  match xs, hlen with
  | [y0, y1], _ =>
  match cs, hl with
  | [c0, c1], _ =>
  have h0 := hf 0 _ rfl
  rw [show Try.prog.cellsOf _ = 1 from by kernel_rfl] at h0
  have h1 := hf 1 _ rfl
  rw [show Try.prog.cellsOf _ = 1 from by kernel_rfl] at h1
  simp only [List.map, DataW.weights, Try.underlying164, DataW.weightsEach, List.all_append, Bool.and_eq_true] at hw
  obtain ⟨z0, a0, b0⟩ := opens3 ec w n [c0] y0 h0 hw.1
  obtain ⟨z1, a1, b1⟩ := opens3 ec w n [c1] y1 h1 hw.2.1
  exact ⟨⟨z0, z1⟩, a0.append a1, b0, b1⟩
theorem opens77 : Opens Try.prog 77 (fun l : List TPut => [vsl 2 ePut l]) (okL 16 okPut) := opens_slice Try.underlying77 opens164 (by kernel_rfl) (by decide) (by kernel_rfl) (fun _ => rfl)
def okRun (x : TRun) : Prop := (okL 16 okRead) x.Reads ∧ (okL 16 okPut) x.Puts ∧ okI x.Val ∧ okI x.Code
set_option maxRecDepth 100000 in
theorem opens79 : Opens Try.prog 79 eRun okRun := by
  intro H ec w fuel cs x h hw
  obtain ⟨xs, n, rfl, rfl, hl, hlen, hf⟩ := DataW.trod_struct Try.underlying79 h
  rw [show Try.prog.cellsOf 79 = 4 from by kernel_rfl] at hl
  match xs, hlen with
  | [y0, y1, y2, y3], _ =>
  match cs, hl with
  | [c0, c1, c2, c3], _ =>
  have h0 := hf 0 _ rfl
  rw [show Try.prog.cellsOf _ = 1 from by kernel_rfl] at h0
  have h1 := hf 1 _ rfl
  rw [show Try.prog.cellsOf _ = 1 from by kernel_rfl] at h1
  have h2 := hf 2 _ rfl
  rw [show Try.prog.cellsOf _ = 1 from by kernel_rfl] at h2
  have h3 := hf 3 _ rfl
  rw [show Try.prog.cellsOf _ = 1 from by kernel_rfl] at h3
  simp only [List.map, DataW.weights, Try.underlying79, DataW.weightsEach, List.all_append, Bool.and_eq_true] at hw
  obtain ⟨z0, a0, b0⟩ := opens76 ec w n [c0] y0 h0 hw.1
  obtain ⟨z1, a1, b1⟩ := opens77 ec w n [c1] y1 h1 hw.2.1
  obtain ⟨z2, a2, b2⟩ := opens3 ec w n [c2] y2 h2 hw.2.2.1
  obtain ⟨z3, a3, b3⟩ := opens3 ec w n [c3] y3 h3 hw.2.2.2.1
  exact ⟨⟨z0, z1, z2, z3⟩, a0.append (a1.append (a2.append a3)), b0, b1, b2, b3⟩
def okEntry (x : TEntry) : Prop := okReq x.Req ∧ okRun x.Run
set_option maxRecDepth 100000 in
theorem opens81 : Opens Try.prog 81 eEntry okEntry := by
  intro H ec w fuel cs x h hw
  obtain ⟨xs, n, rfl, rfl, hl, hlen, hf⟩ := DataW.trod_struct Try.underlying81 h
  rw [show Try.prog.cellsOf 81 = 7 from by kernel_rfl] at hl
  match xs, hlen with
  | [y0, y1, y2], _ =>
  match cs, hl with
  | [c0, c1, c2, c3, c4, c5, c6], _ =>
  have h0 := hf 0 _ rfl
  rw [show Try.prog.cellsOf _ = 1 from by kernel_rfl] at h0
  have h1 := hf 1 _ rfl
  rw [show Try.prog.cellsOf _ = 2 from by kernel_rfl] at h1
  have h2 := hf 2 _ rfl
  rw [show Try.prog.cellsOf _ = 4 from by kernel_rfl] at h2
  simp only [List.map, DataW.weights, Try.underlying81, DataW.weightsEach, List.all_append, Bool.and_eq_true] at hw
  obtain ⟨z0, a0, b0⟩ := opens4 ec w n [c0] y0 h0 hw.1
  obtain ⟨z1, a1, b1⟩ := opens29 ec w n [c1, c2] y1 h1 hw.2.1
  obtain ⟨z2, a2, b2⟩ := opens79 ec w n [c3, c4, c5, c6] y2 h2 hw.2.2.1
  exact ⟨⟨z0, z1, z2⟩, a0.append (a1.append a2), b1, b2⟩
def okVote (x : TVote) : Prop := okI x.Bal ∧ okEntry x.Entry
set_option maxRecDepth 100000 in
theorem opens147 : Opens Try.prog 147 eVote okVote := by
  intro H ec w fuel cs x h hw
  obtain ⟨xs, n, rfl, rfl, hl, hlen, hf⟩ := DataW.trod_struct Try.underlying147 h
  rw [show Try.prog.cellsOf 147 = 8 from by kernel_rfl] at hl
  match xs, hlen with
  | [y0, y1], _ =>
  match cs, hl with
  | [c0, c1, c2, c3, c4, c5, c6, c7], _ =>
  have h0 := hf 0 _ rfl
  rw [show Try.prog.cellsOf _ = 1 from by kernel_rfl] at h0
  have h1 := hf 1 _ rfl
  rw [show Try.prog.cellsOf _ = 7 from by kernel_rfl] at h1
  simp only [List.map, DataW.weights, Try.underlying147, DataW.weightsEach, List.all_append, Bool.and_eq_true] at hw
  obtain ⟨z0, a0, b0⟩ := opens3 ec w n [c0] y0 h0 hw.1
  obtain ⟨z1, a1, b1⟩ := opens81 ec w n [c1, c2, c3, c4, c5, c6, c7] y1 h1 hw.2.1
  exact ⟨⟨z0, z1⟩, a0.append a1, b0, b1⟩
theorem opens71 : Opens Try.prog 71 (fun l : List TVote => [vsl 8 eVote l]) (okL 96 okVote) := opens_slice Try.underlying71 opens147 (by kernel_rfl) (by decide) (by kernel_rfl) (fun _ => rfl)
def okAcc (x : TAcc) : Prop := okI x.Promised ∧ (okL 96 okVote) x.Votes
set_option maxRecDepth 100000 in
theorem opens73 : Opens Try.prog 73 eAcc okAcc := by
  intro H ec w fuel cs x h hw
  obtain ⟨xs, n, rfl, rfl, hl, hlen, hf⟩ := DataW.trod_struct Try.underlying73 h
  rw [show Try.prog.cellsOf 73 = 2 from by kernel_rfl] at hl
  match xs, hlen with
  | [y0, y1], _ =>
  match cs, hl with
  | [c0, c1], _ =>
  have h0 := hf 0 _ rfl
  rw [show Try.prog.cellsOf _ = 1 from by kernel_rfl] at h0
  have h1 := hf 1 _ rfl
  rw [show Try.prog.cellsOf _ = 1 from by kernel_rfl] at h1
  simp only [List.map, DataW.weights, Try.underlying73, DataW.weightsEach, List.all_append, Bool.and_eq_true] at hw
  obtain ⟨z0, a0, b0⟩ := opens3 ec w n [c0] y0 h0 hw.1
  obtain ⟨z1, a1, b1⟩ := opens71 ec w n [c1] y1 h1 hw.2.1
  exact ⟨⟨z0, z1⟩, a0.append a1, b0, b1⟩
theorem opens74 : Opens Try.prog 74 (fun l : List TEntry => [vsl 7 eEntry l]) (okL 88 okEntry) := opens_slice Try.underlying74 opens81 (by kernel_rfl) (by decide) (by kernel_rfl) (fun _ => rfl)
theorem opens75 : Opens Try.prog 75 (fun l : List Bool => [vsl 1 eB l]) (okL 1 okT) := opens_slice Try.underlying75 opens4 (by kernel_rfl) (by decide) (by kernel_rfl) (fun _ => rfl)
def okIns (x : TIns) : Prop := okI x.Kind ∧ okI x.A ∧ okI x.B ∧ okI x.N
set_option maxRecDepth 100000 in
theorem opens152 : Opens Try.prog 152 eIns okIns := by
  intro H ec w fuel cs x h hw
  obtain ⟨xs, n, rfl, rfl, hl, hlen, hf⟩ := DataW.trod_struct Try.underlying152 h
  rw [show Try.prog.cellsOf 152 = 4 from by kernel_rfl] at hl
  match xs, hlen with
  | [y0, y1, y2, y3], _ =>
  match cs, hl with
  | [c0, c1, c2, c3], _ =>
  have h0 := hf 0 _ rfl
  rw [show Try.prog.cellsOf _ = 1 from by kernel_rfl] at h0
  have h1 := hf 1 _ rfl
  rw [show Try.prog.cellsOf _ = 1 from by kernel_rfl] at h1
  have h2 := hf 2 _ rfl
  rw [show Try.prog.cellsOf _ = 1 from by kernel_rfl] at h2
  have h3 := hf 3 _ rfl
  rw [show Try.prog.cellsOf _ = 1 from by kernel_rfl] at h3
  simp only [List.map, DataW.weights, Try.underlying152, DataW.weightsEach, List.all_append, Bool.and_eq_true] at hw
  obtain ⟨z0, a0, b0⟩ := opens3 ec w n [c0] y0 h0 hw.1
  obtain ⟨z1, a1, b1⟩ := opens3 ec w n [c1] y1 h1 hw.2.1
  obtain ⟨z2, a2, b2⟩ := opens3 ec w n [c2] y2 h2 hw.2.2.1
  obtain ⟨z3, a3, b3⟩ := opens3 ec w n [c3] y3 h3 hw.2.2.2.1
  exact ⟨⟨z0, z1, z2, z3⟩, a0.append (a1.append (a2.append a3)), b0, b1, b2, b3⟩
theorem opens82 : Opens Try.prog 82 (fun l : List TIns => [vsl 4 eIns l]) (okL 32 okIns) := opens_slice Try.underlying82 opens152 (by kernel_rfl) (by decide) (by kernel_rfl) (fun _ => rfl)
def okNode (x : TNode) : Prop := okI x.Id ∧ okAcc x.Acc ∧ (okL 88 okEntry) x.Known ∧ okI x.Seq ∧ okI x.Phase ∧ okI x.Bal ∧ (okL 1 okT) x.From ∧ (okL 96 okVote) x.Best ∧ okEntry x.Cur ∧ (okL 1 okT) x.Votes ∧ (okL 32 okIns) x.Prog ∧ okEntry x.Want ∧ (okL 88 okEntry) x.Queue
set_option maxRecDepth 100000 in
theorem opens84 : Opens Try.prog 84 eNode okNode := by
  intro H ec w fuel cs x h hw
  obtain ⟨xs, n, rfl, rfl, hl, hlen, hf⟩ := DataW.trod_struct Try.underlying84 h
  rw [show Try.prog.cellsOf 84 = 27 from by kernel_rfl] at hl
  match xs, hlen with
  | [y0, y1, y2, y3, y4, y5, y6, y7, y8, y9, y10, y11, y12, y13], _ =>
  match cs, hl with
  | [c0, c1, c2, c3, c4, c5, c6, c7, c8, c9, c10, c11, c12, c13, c14, c15, c16, c17, c18, c19, c20, c21, c22, c23, c24, c25, c26], _ =>
  have h0 := hf 0 _ rfl
  rw [show Try.prog.cellsOf _ = 1 from by kernel_rfl] at h0
  have h1 := hf 1 _ rfl
  rw [show Try.prog.cellsOf _ = 2 from by kernel_rfl] at h1
  have h2 := hf 2 _ rfl
  rw [show Try.prog.cellsOf _ = 1 from by kernel_rfl] at h2
  have h3 := hf 3 _ rfl
  rw [show Try.prog.cellsOf _ = 1 from by kernel_rfl] at h3
  have h4 := hf 4 _ rfl
  rw [show Try.prog.cellsOf _ = 1 from by kernel_rfl] at h4
  have h5 := hf 5 _ rfl
  rw [show Try.prog.cellsOf _ = 1 from by kernel_rfl] at h5
  have h6 := hf 6 _ rfl
  rw [show Try.prog.cellsOf _ = 1 from by kernel_rfl] at h6
  have h7 := hf 7 _ rfl
  rw [show Try.prog.cellsOf _ = 1 from by kernel_rfl] at h7
  have h8 := hf 8 _ rfl
  rw [show Try.prog.cellsOf _ = 7 from by kernel_rfl] at h8
  have h9 := hf 9 _ rfl
  rw [show Try.prog.cellsOf _ = 1 from by kernel_rfl] at h9
  have h10 := hf 10 _ rfl
  rw [show Try.prog.cellsOf _ = 1 from by kernel_rfl] at h10
  have h11 := hf 11 _ rfl
  rw [show Try.prog.cellsOf _ = 1 from by kernel_rfl] at h11
  have h12 := hf 12 _ rfl
  rw [show Try.prog.cellsOf _ = 7 from by kernel_rfl] at h12
  have h13 := hf 13 _ rfl
  rw [show Try.prog.cellsOf _ = 1 from by kernel_rfl] at h13
  simp only [List.map, DataW.weights, Try.underlying84, DataW.weightsEach, List.all_append, Bool.and_eq_true] at hw
  obtain ⟨z0, a0, b0⟩ := opens3 ec w n [c0] y0 h0 hw.1
  obtain ⟨z1, a1, b1⟩ := opens73 ec w n [c1, c2] y1 h1 hw.2.1
  obtain ⟨z2, a2, b2⟩ := opens74 ec w n [c3] y2 h2 hw.2.2.1
  obtain ⟨z3, a3, b3⟩ := opens3 ec w n [c4] y3 h3 hw.2.2.2.1
  obtain ⟨z4, a4, b4⟩ := opens3 ec w n [c5] y4 h4 hw.2.2.2.2.1
  obtain ⟨z5, a5, b5⟩ := opens3 ec w n [c6] y5 h5 hw.2.2.2.2.2.1
  obtain ⟨z6, a6, b6⟩ := opens75 ec w n [c7] y6 h6 hw.2.2.2.2.2.2.1
  obtain ⟨z7, a7, b7⟩ := opens71 ec w n [c8] y7 h7 hw.2.2.2.2.2.2.2.1
  obtain ⟨z8, a8, b8⟩ := opens81 ec w n [c9, c10, c11, c12, c13, c14, c15] y8 h8 hw.2.2.2.2.2.2.2.2.1
  obtain ⟨z9, a9, b9⟩ := opens75 ec w n [c16] y9 h9 hw.2.2.2.2.2.2.2.2.2.1
  obtain ⟨z10, a10, b10⟩ := opens4 ec w n [c17] y10 h10 hw.2.2.2.2.2.2.2.2.2.2.1
  obtain ⟨z11, a11, b11⟩ := opens82 ec w n [c18] y11 h11 hw.2.2.2.2.2.2.2.2.2.2.2.1
  obtain ⟨z12, a12, b12⟩ := opens81 ec w n [c19, c20, c21, c22, c23, c24, c25] y12 h12 hw.2.2.2.2.2.2.2.2.2.2.2.2.1
  obtain ⟨z13, a13, b13⟩ := opens74 ec w n [c26] y13 h13 hw.2.2.2.2.2.2.2.2.2.2.2.2.2.1
  exact ⟨⟨z0, z1, z2, z3, z4, z5, z6, z7, z8, z9, z10, z11, z12, z13⟩, a0.append (a1.append (a2.append (a3.append (a4.append (a5.append (a6.append (a7.append (a8.append (a9.append (a10.append (a11.append (a12.append a13)))))))))))), b0, b1, b2, b3, b4, b5, b6, b7, b8, b9, b11, b12, b13⟩
theorem opens22 : Opens Try.prog 22 (fun l : List TNode => [vsl 27 eNode l]) (okL 392 okNode) := opens_slice Try.underlying22 opens84 (by kernel_rfl) (by decide) (by kernel_rfl) (fun _ => rfl)
def okMsg (x : TMsg) : Prop := okI x.Kind ∧ okI x.From ∧ okI x.To ∧ okI x.Bal ∧ okI x.Slot ∧ okEntry x.Entry ∧ (okL 96 okVote) x.Votes
set_option maxRecDepth 100000 in
theorem opens87 : Opens Try.prog 87 eMsg okMsg := by
  intro H ec w fuel cs x h hw
  obtain ⟨xs, n, rfl, rfl, hl, hlen, hf⟩ := DataW.trod_struct Try.underlying87 h
  rw [show Try.prog.cellsOf 87 = 13 from by kernel_rfl] at hl
  match xs, hlen with
  | [y0, y1, y2, y3, y4, y5, y6], _ =>
  match cs, hl with
  | [c0, c1, c2, c3, c4, c5, c6, c7, c8, c9, c10, c11, c12], _ =>
  have h0 := hf 0 _ rfl
  rw [show Try.prog.cellsOf _ = 1 from by kernel_rfl] at h0
  have h1 := hf 1 _ rfl
  rw [show Try.prog.cellsOf _ = 1 from by kernel_rfl] at h1
  have h2 := hf 2 _ rfl
  rw [show Try.prog.cellsOf _ = 1 from by kernel_rfl] at h2
  have h3 := hf 3 _ rfl
  rw [show Try.prog.cellsOf _ = 1 from by kernel_rfl] at h3
  have h4 := hf 4 _ rfl
  rw [show Try.prog.cellsOf _ = 1 from by kernel_rfl] at h4
  have h5 := hf 5 _ rfl
  rw [show Try.prog.cellsOf _ = 7 from by kernel_rfl] at h5
  have h6 := hf 6 _ rfl
  rw [show Try.prog.cellsOf _ = 1 from by kernel_rfl] at h6
  simp only [List.map, DataW.weights, Try.underlying87, DataW.weightsEach, List.all_append, Bool.and_eq_true] at hw
  obtain ⟨z0, a0, b0⟩ := opens3 ec w n [c0] y0 h0 hw.1
  obtain ⟨z1, a1, b1⟩ := opens3 ec w n [c1] y1 h1 hw.2.1
  obtain ⟨z2, a2, b2⟩ := opens3 ec w n [c2] y2 h2 hw.2.2.1
  obtain ⟨z3, a3, b3⟩ := opens3 ec w n [c3] y3 h3 hw.2.2.2.1
  obtain ⟨z4, a4, b4⟩ := opens3 ec w n [c4] y4 h4 hw.2.2.2.2.1
  obtain ⟨z5, a5, b5⟩ := opens81 ec w n [c5, c6, c7, c8, c9, c10, c11] y5 h5 hw.2.2.2.2.2.1
  obtain ⟨z6, a6, b6⟩ := opens71 ec w n [c12] y6 h6 hw.2.2.2.2.2.2.1
  exact ⟨⟨z0, z1, z2, z3, z4, z5, z6⟩, a0.append (a1.append (a2.append (a3.append (a4.append (a5.append a6))))), b0, b1, b2, b3, b4, b5, b6⟩
theorem opens23 : Opens Try.prog 23 (fun l : List TMsg => [vsl 13 eMsg l]) (okL 152 okMsg) := opens_slice Try.underlying23 opens87 (by kernel_rfl) (by decide) (by kernel_rfl) (fun _ => rfl)
def okAsked (x : TAsked) : Prop := okReq x.Req ∧ (okL 32 okIns) x.Prog
set_option maxRecDepth 100000 in
theorem opens90 : Opens Try.prog 90 eAsked okAsked := by
  intro H ec w fuel cs x h hw
  obtain ⟨xs, n, rfl, rfl, hl, hlen, hf⟩ := DataW.trod_struct Try.underlying90 h
  rw [show Try.prog.cellsOf 90 = 3 from by kernel_rfl] at hl
  match xs, hlen with
  | [y0, y1], _ =>
  match cs, hl with
  | [c0, c1, c2], _ =>
  have h0 := hf 0 _ rfl
  rw [show Try.prog.cellsOf _ = 2 from by kernel_rfl] at h0
  have h1 := hf 1 _ rfl
  rw [show Try.prog.cellsOf _ = 1 from by kernel_rfl] at h1
  simp only [List.map, DataW.weights, Try.underlying90, DataW.weightsEach, List.all_append, Bool.and_eq_true] at hw
  obtain ⟨z0, a0, b0⟩ := opens29 ec w n [c0, c1] y0 h0 hw.1
  obtain ⟨z1, a1, b1⟩ := opens82 ec w n [c2] y1 h1 hw.2.1
  exact ⟨⟨z0, z1⟩, a0.append a1, b0, b1⟩
theorem opens24 : Opens Try.prog 24 (fun l : List TAsked => [vsl 3 eAsked l]) (okL 40 okAsked) := opens_slice Try.underlying24 opens90 (by kernel_rfl) (by decide) (by kernel_rfl) (fun _ => rfl)
def okTold (x : TTold) : Prop := okI x.Node ∧ okReq x.Req ∧ okI x.Code ∧ okI x.Val
set_option maxRecDepth 100000 in
theorem opens112 : Opens Try.prog 112 eTold okTold := by
  intro H ec w fuel cs x h hw
  obtain ⟨xs, n, rfl, rfl, hl, hlen, hf⟩ := DataW.trod_struct Try.underlying112 h
  rw [show Try.prog.cellsOf 112 = 5 from by kernel_rfl] at hl
  match xs, hlen with
  | [y0, y1, y2, y3], _ =>
  match cs, hl with
  | [c0, c1, c2, c3, c4], _ =>
  have h0 := hf 0 _ rfl
  rw [show Try.prog.cellsOf _ = 1 from by kernel_rfl] at h0
  have h1 := hf 1 _ rfl
  rw [show Try.prog.cellsOf _ = 2 from by kernel_rfl] at h1
  have h2 := hf 2 _ rfl
  rw [show Try.prog.cellsOf _ = 1 from by kernel_rfl] at h2
  have h3 := hf 3 _ rfl
  rw [show Try.prog.cellsOf _ = 1 from by kernel_rfl] at h3
  simp only [List.map, DataW.weights, Try.underlying112, DataW.weightsEach, List.all_append, Bool.and_eq_true] at hw
  obtain ⟨z0, a0, b0⟩ := opens3 ec w n [c0] y0 h0 hw.1
  obtain ⟨z1, a1, b1⟩ := opens29 ec w n [c1, c2] y1 h1 hw.2.1
  obtain ⟨z2, a2, b2⟩ := opens3 ec w n [c3] y2 h2 hw.2.2.1
  obtain ⟨z3, a3, b3⟩ := opens3 ec w n [c4] y3 h3 hw.2.2.2.1
  exact ⟨⟨z0, z1, z2, z3⟩, a0.append (a1.append (a2.append a3)), b0, b1, b2, b3⟩
theorem opens25 : Opens Try.prog 25 (fun l : List TTold => [vsl 5 eTold l]) (okL 40 okTold) := opens_slice Try.underlying25 opens112 (by kernel_rfl) (by decide) (by kernel_rfl) (fun _ => rfl)
def okWorld (x : TWorld) : Prop := (okL 392 okNode) x.Nodes ∧ (okL 152 okMsg) x.Net ∧ (okL 40 okAsked) x.Asked ∧ (okL 40 okTold) x.Told
set_option maxRecDepth 100000 in
theorem opens27 : Opens Try.prog 27 eWorld okWorld := by
  intro H ec w fuel cs x h hw
  obtain ⟨xs, n, rfl, rfl, hl, hlen, hf⟩ := DataW.trod_struct Try.underlying27 h
  rw [show Try.prog.cellsOf 27 = 4 from by kernel_rfl] at hl
  match xs, hlen with
  | [y0, y1, y2, y3], _ =>
  match cs, hl with
  | [c0, c1, c2, c3], _ =>
  have h0 := hf 0 _ rfl
  rw [show Try.prog.cellsOf _ = 1 from by kernel_rfl] at h0
  have h1 := hf 1 _ rfl
  rw [show Try.prog.cellsOf _ = 1 from by kernel_rfl] at h1
  have h2 := hf 2 _ rfl
  rw [show Try.prog.cellsOf _ = 1 from by kernel_rfl] at h2
  have h3 := hf 3 _ rfl
  rw [show Try.prog.cellsOf _ = 1 from by kernel_rfl] at h3
  simp only [List.map, DataW.weights, Try.underlying27, DataW.weightsEach, List.all_append, Bool.and_eq_true] at hw
  obtain ⟨z0, a0, b0⟩ := opens22 ec w n [c0] y0 h0 hw.1
  obtain ⟨z1, a1, b1⟩ := opens23 ec w n [c1] y1 h1 hw.2.1
  obtain ⟨z2, a2, b2⟩ := opens24 ec w n [c2] y2 h2 hw.2.2.1
  obtain ⟨z3, a3, b3⟩ := opens25 ec w n [c3] y3 h3 hw.2.2.2.1
  exact ⟨⟨z0, z1, z2, z3⟩, a0.append (a1.append (a2.append a3)), b0, b1, b2, b3⟩

end Go.Proofs.Ythegkbaijmkhfaa
