/- The law FnExactHeapDestroy, walked: it returns true, whatever heap it is handed. No condition. -/
import Derived.Test.YtjgjnlppphejpaaGreatMk
import Derived.Test.YtjgjnlppphejpaaGreatMl
namespace Go.Proofs.YtjgjnlppphejpaaGreat.Ab
open Go.RowKit
set_option maxRecDepth 20000
set_option maxHeartbeats 4000000
theorem cntIntSS_16 : ∀ {x : List (List Int)}, (∀ r ∈ x, r.length ≤ 16) → cntIntSS x ≤ 16 * x.length
  | [], _ => Nat.zero_le _
  | r :: x, h => by
    have h1 := h r (List.mem_cons_self ..)
    have h2 := cntIntSS_16 (x := x) fun r hr => h r (List.mem_cons_of_mem _ hr)
    simp only [cntIntSS, cntIntS, List.length_cons]; omega
theorem cntDEntryS_len : ∀ (x : List DEntry), cntDEntryS x = 2 * x.length
  | [] => rfl
  | e :: x => by simp only [cntDEntryS, DEntry.cnt, cntDEntryS_len x, List.length_cons]; omega
theorem kernelOk_cnt {k : DKernel} (h : kernelOk k = true) : DKernel.cnt k ≤ 1000 := by
  obtain ⟨h1, h2, h3, h4, h5, h6, h7⟩ := kernelOk_iff.1 h
  obtain ⟨g1, g2, g3, g4⟩ := framesOk_iff.1 h2
  obtain ⟨t1, t2, t3⟩ := tableOk_iff.1 h3
  have hc := cntIntSS_16 (x := k.Machine.Frames.Cells) fun r hr => by
    obtain ⟨j, hj⟩ := List.mem_iff_getElem?.1 hr
    have := g4 j (List.getElem?_eq_some_iff.1 hj).1
    rw [nth_of hj] at this
    unfold rowOk at this
    simp only [Bool.and_eq_true, decide_eq_true_eq] at this
    omega
  have he := cntDEntryS_len k.Machine.Table.Entries
  unfold DKernel.cnt DMachine.cnt DFrames.cnt DTable.cnt cntBoolS cntIntS
  omega
theorem destroyed_sml {h : DHeap} (hs : DHeap.sml h) : DKernel.sml (destroyed h).1 := by
  unfold destroyed
  split
  · rename_i e; exact kernelOk_sml (kernelOk_destr (heapS_kernel e.1) _)
  · exact hs.1
theorem destroyed_cnt {h : DHeap} (hc : DHeap.cnt h ≤ 8388608) : DKernel.cnt (destroyed h).1 ≤ 8388608 := by
  unfold destroyed
  split
  · rename_i e; have := kernelOk_cnt (kernelOk_destr (heapS_kernel e.1) h.Kernel.Machine.Table.Entries.length); omega
  · unfold DHeap.cnt at hc; simp only; omega
theorem destroyed_num {h : DHeap} (hs : DHeap.sml h) : 0 ≤ (destroyed h).2 ∧ (destroyed h).2 ≤ 1048576 := by
  have hlen : h.Kernel.Machine.Table.Entries.length ≤ 1048576 := hs.1.1.2.1
  unfold destroyed
  split
  · obtain ⟨-, -, -, h4, h5⟩ := destr_len h.Kernel h.Kernel.Machine.Table.Entries.length
    omega
  · simp
theorem HeapDestroy_law (h : DHeap) (hw : DHeap.wf h) : CallsA Tryz.prog 4 false [.val (some 24) (DHeap.enc .imm h)] .one [B true] := by
  by_cases hz : (DHeap.sz h : Int) ≤ 1048576
  · have hs := DHeap.sml_of (x := h) (by omega)
    have hc := DHeap.cnt_le h
    have ds := destroyed_sml hs
    have dc := destroyed_cnt (h := h) (by omega)
    have cs := HeapDestroy_spec h hs hw
    have ci := HeapDestroy_impl h hs
    generalize destroyed h = d at ds dc cs ci
    obtain ⟨k, n⟩ := d
    simp only at ds dc cs ci
    refine fnOk (n := 96) (mo := [(15, [1, 0]), (16, [1, 0])]) (tb := [(10,3,[41,42,43])]) Tryz.func4 (by kernel_rfl) rfl (by kernel_rfl) (by rfl) (.inr ⟨trivial, trivial⟩) ?_
    repeat' ((conv => whnf); first | with_reducible (first | refine Ln.mk (List.length_map ..) ?_ | refine Wr.mk (wrapI (by omega) (by omega)) ?_ | refine Bf.D (fun hq => absurd hq (by omega)) (fun hq => ?_) | refine Bf.D (fun hq => ?_) (fun hq => absurd rfl hq) | refine Bf.N (fun hq => absurd rfl hq) (fun hq => ?_) | refine Bf.not ?_ | refine Fin_.mk rfl ?_) | refine Bf.t rfl ?_ | refine Bf.f rfl ?_ | refine Cl.sz (szHeap_ok h _ (by omega) (by omega) hw) (fun hq => absurd hq (by omega)) (fun hq => ?_) | refine Cl.mk (toHeap_ok h hs) ?_ | refine Cl.eq (cs) ⟨⟨rfl, DHeap.enc_fz h⟩, trivial⟩ ?_ | refine Cl.eq (ci) ⟨⟨rfl, DHeap.enc_fz h⟩, trivial⟩ ?_ | refine Cl.eq (eqKernel_ok k k ds) ⟨⟨rfl, DKernel.enc_fz k⟩, ⟨rfl, DKernel.enc_fz k⟩, trivial⟩ ?_ | refine Cl.eq (eqHeap_ok h h hs) ⟨⟨rfl, DHeap.enc_fz h⟩, ⟨rfl, DHeap.enc_fz h⟩, trivial⟩ ?_ | refine ClM.mk (markHeap_ok h 1 hs (by omega) (by omega)) (.inl rfl) ?_ | refine ClM.mk (markKernel_ok k 1 ds (by omega) (by omega)) (.inl rfl) ?_ | refine Cl.eq (heldKernel_ok k 1 ds (by omega) (by omega)) ⟨⟨rfl, DKernel.enc_fz _⟩, ⟨rfl, rfl⟩, trivial⟩ ?_)
    all_goals rfl
  · refine fnOk (n := 96) (mo := [(15, [1, 0]), (16, [1, 0])]) (tb := [(10,3,[41,42,43])]) Tryz.func4 (by kernel_rfl) rfl (by kernel_rfl) (by rfl) (.inr ⟨trivial, trivial⟩) ?_
    repeat' ((conv => whnf); first | with_reducible (first | refine Ln.mk (List.length_map ..) ?_ | refine Wr.mk (wrapI (by omega) (by omega)) ?_ | refine Bf.D (fun hq => ?_) (fun hq => absurd hq (by omega)) | refine Bf.not ?_ | refine Fin_.mk rfl ?_) | refine Bf.t rfl ?_ | refine Bf.f rfl ?_ | refine Cl.sz (szHeap_ok h _ (by omega) (by omega) hw) (fun hq => ?_) (fun hq => absurd hq (by omega)))
    rfl
end Go.Proofs.YtjgjnlppphejpaaGreat.Ab
