/- PressureOf: the contracts of the reference's and the program's, and the law, walked. No condition. -/
import Derived.Test.YtjgjnlppphejpaaGreatMk
import Derived.Test.YtjgjnlppphejpaaGreatMl
namespace Go.Proofs.YtjgjnlppphejpaaGreat.Ab
open Go.RowKit
set_option maxRecDepth 20000
set_option maxHeartbeats 4000000
def pressureOf (h : DHeap) : Int := if heapS h then 4 * usedFrames h.Kernel.Machine.Frames / h.Kernel.Machine.Frames.Used.length else 0
theorem usedN_bd (us : List Bool) : ∀ i, 0 ≤ usedN us i ∧ usedN us i ≤ i
  | 0 => ⟨Int.le_refl _, Int.le_refl _⟩
  | i + 1 => by
    have ih := usedN_bd us i
    show 0 ≤ usedN us i + (if nth us i then 1 else 0) ∧ usedN us i + (if nth us i then 1 else 0) ≤ _
    split <;> omega
theorem heapS_frames {h : DHeap} (he : heapS h = true) : framesOk h.Kernel.Machine.Frames = true := by
  unfold heapS layAll kernelOk machineOk at he
  simp only [Bool.and_eq_true] at he
  exact he.1.1.1.1.1.1.1.1.1.1.1.2.1.1
theorem press_div {u n : Int} (hu : 0 ≤ u ∧ u ≤ n) (hn : 1 ≤ n ∧ n ≤ 32) : IntKind.i64.wrap ((4 * u).tdiv n) = 4 * u / n := by
  rw [tdiv_pos (by omega)]
  have h1 : 0 ≤ 4 * u / n := Int.ediv_nonneg (by omega) (by omega)
  have h2 : 4 * u / n ≤ 4 * u := Int.ediv_le_self _ (by omega)
  exact wrapI (by omega) (by omega)
theorem PressureOf_spec (h : DHeap) (hs : DHeap.sml h) (hw : DHeap.wf h) : CallsA Tryz.prog 8 false [.val (some 24) (DHeap.enc .imm h)] .one [I (pressureOf h)] := by
  have c1 := HeapOk_spec h hs hw
  have c2 := UsedFrames_spec h.Kernel.Machine.Frames hs.1.1.1
  cases e1 : heapS h <;> rw [e1] at c1
  · refine fnOk (n := 19) (mo := []) (tb := [(3,13,[6,7,8,9,10,11,12,13,14,15,16,17,18])]) Tryz.func8 (by kernel_rfl) rfl (by kernel_rfl) (by rfl) (.inr ⟨trivial, trivial⟩) ?_
    repeat' ((conv => whnf); first | with_reducible (first | refine Ln.mk (List.length_map ..) ?_ | refine Wr.mk (wrapI (by omega) (by omega)) ?_ | refine Bf.not ?_ | refine Fin_.mk rfl ?_) | refine Bf.t rfl ?_ | refine Bf.f rfl ?_ | refine Cl.mk c1 ?_)
    exact congrArg (fun z => [I z]) (by unfold pressureOf; rw [e1]; rfl)
  · have hf := heapS_frames e1
    obtain ⟨l1, l2, l3⟩ := framesOk_len hf
    have hb := usedN_bd h.Kernel.Machine.Frames.Used h.Kernel.Machine.Frames.Used.length
    have hu : usedFrames h.Kernel.Machine.Frames = usedN h.Kernel.Machine.Frames.Used h.Kernel.Machine.Frames.Used.length := by unfold usedFrames; rw [hf]; rfl
    rw [← hu] at hb
    have hq := press_div (u := usedFrames h.Kernel.Machine.Frames) (n := h.Kernel.Machine.Frames.Cells.length) (by omega) (by omega)
    refine fnOk (n := 19) (mo := []) (tb := [(3,13,[6,7,8,9,10,11,12,13,14,15,16,17,18])]) Tryz.func8 (by kernel_rfl) rfl (by kernel_rfl) (by rfl) (.inr ⟨trivial, trivial⟩) ?_
    repeat' ((conv => whnf); first | with_reducible (first | refine Ln.mk (List.length_map ..) ?_ | refine Wr.mk (wrapI (by omega) (by omega)) ?_ | refine Bf.not ?_ | refine Fin_.mk rfl ?_) | refine Bf.t rfl ?_ | refine Bf.f rfl ?_ | refine Cl.mk c1 ?_ | refine Cl.mk c2 ?_ | refine Cd.mk (by omega) ?_ | refine Wr.mk hq ?_)
    exact congrArg (fun z => [I z]) (by unfold pressureOf; rw [e1, l3]; rfl)
theorem PressureOf_impl (h : DHeap) (hs : DHeap.sml h) : CallsA Tryz.prog 10 false [.val (some 24) (DHeap.enc .imm h)] .one [I (pressureOf h)] := by
  have c1 := HeapOk_impl h hs
  rw [heap_same] at c1
  have c2 := UsedFrames_impl h.Kernel.Machine.Frames hs.1.1.1
  cases e1 : heapS h <;> rw [e1] at c1
  · refine fnOk (n := 18) (mo := []) (tb := [(4,7,[11,12,13,14,15,16,17])]) Tryz.func10 (by kernel_rfl) rfl (by kernel_rfl) (by rfl) (.inr ⟨trivial, trivial⟩) ?_
    repeat' ((conv => whnf); first | with_reducible (first | refine Ln.mk (List.length_map ..) ?_ | refine Wr.mk (wrapI (by omega) (by omega)) ?_ | refine Bf.not ?_ | refine Fin_.mk rfl ?_) | refine Bf.t rfl ?_ | refine Bf.f rfl ?_ | refine Cl.mk c1 ?_)
    exact congrArg (fun z => [I z]) (by unfold pressureOf; rw [e1]; rfl)
  · have hf := heapS_frames e1
    obtain ⟨l1, l2, l3⟩ := framesOk_len hf
    have hb := usedN_bd h.Kernel.Machine.Frames.Used h.Kernel.Machine.Frames.Used.length
    have hu : usedFrames h.Kernel.Machine.Frames = usedN h.Kernel.Machine.Frames.Used h.Kernel.Machine.Frames.Used.length := by unfold usedFrames; rw [hf]; rfl
    rw [← hu] at hb
    have hq := press_div (u := usedFrames h.Kernel.Machine.Frames) (n := h.Kernel.Machine.Frames.Used.length) (by omega) (by omega)
    refine fnOk (n := 18) (mo := []) (tb := [(4,7,[11,12,13,14,15,16,17])]) Tryz.func10 (by kernel_rfl) rfl (by kernel_rfl) (by rfl) (.inr ⟨trivial, trivial⟩) ?_
    repeat' ((conv => whnf); first | with_reducible (first | refine Ln.mk (List.length_map ..) ?_ | refine Wr.mk (wrapI (by omega) (by omega)) ?_ | refine Bf.not ?_ | refine Fin_.mk rfl ?_) | refine Bf.t rfl ?_ | refine Bf.f rfl ?_ | refine Cl.mk c1 ?_ | refine Cl.mk c2 ?_ | refine Cd.mk (by omega) ?_ | refine Wr.mk hq ?_)
    exact congrArg (fun z => [I z]) (by unfold pressureOf; rw [e1]; rfl)
theorem PressureOf_law (h : DHeap) (hw : DHeap.wf h) : CallsA Tryz.prog 3 false [.val (some 24) (DHeap.enc .imm h)] .one [B true] := by
  by_cases hz : (DHeap.sz h : Int) ≤ 1048576
  · have hs := DHeap.sml_of (x := h) (by omega)
    refine fnOk (n := 27) (mo := []) (tb := [(10,5,[22,23,24,25,26])]) Tryz.func3 (by kernel_rfl) rfl (by kernel_rfl) (by rfl) (.inr ⟨trivial, trivial⟩) ?_
    repeat' ((conv => whnf); first | with_reducible (first | refine Ln.mk (List.length_map ..) ?_ | refine Wr.mk (wrapI (by omega) (by omega)) ?_ | refine Bf.D (fun hq => absurd hq (by omega)) (fun hq => ?_) | refine Bf.D (fun hq => ?_) (fun hq => absurd rfl hq) | refine Bf.N (fun hq => absurd rfl hq) (fun hq => ?_) | refine Bf.not ?_ | refine Fin_.mk rfl ?_) | refine Bf.t rfl ?_ | refine Bf.f rfl ?_ | refine Cl.sz (szHeap_ok h _ (by omega) (by omega) hw) (fun hq => absurd hq (by omega)) (fun hq => ?_) | refine Cl.mk (toHeap_ok h hs) ?_ | refine Cl.eq (PressureOf_spec h hs hw) ⟨⟨rfl, DHeap.enc_fz h⟩, trivial⟩ ?_ | refine Cl.eq (PressureOf_impl h hs) ⟨⟨rfl, DHeap.enc_fz h⟩, trivial⟩ ?_ | refine Cl.eq (eqHeap_ok h h hs) ⟨⟨rfl, DHeap.enc_fz h⟩, ⟨rfl, DHeap.enc_fz h⟩, trivial⟩ ?_)
    all_goals rfl
  · refine fnOk (n := 27) (mo := []) (tb := [(10,5,[22,23,24,25,26])]) Tryz.func3 (by kernel_rfl) rfl (by kernel_rfl) (by rfl) (.inr ⟨trivial, trivial⟩) ?_
    repeat' ((conv => whnf); first | with_reducible (first | refine Ln.mk (List.length_map ..) ?_ | refine Wr.mk (wrapI (by omega) (by omega)) ?_ | refine Bf.D (fun hq => ?_) (fun hq => absurd hq (by omega)) | refine Bf.not ?_ | refine Fin_.mk rfl ?_) | refine Bf.t rfl ?_ | refine Bf.f rfl ?_ | refine Cl.sz (szHeap_ok h _ (by omega) (by omega) hw) (fun hq => ?_) (fun hq => absurd hq (by omega)))
    rfl
end Go.Proofs.YtjgjnlppphejpaaGreat.Ab
