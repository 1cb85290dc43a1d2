/- Contracts of the laws' generic functions (sz). Printed by gen_con.py. No condition. -/
import Derived.Test.YthinjmmlpgjhnaaGreatDat
namespace Go.Proofs.YthinjmmlpgjhnaaGreat.Ab
open Go.RowKit
set_option maxRecDepth 20000
set_option maxHeartbeats 2000000

theorem szIntS_ok (x : List Int) (left : Int) (h0 : 0 ≤ left) (h1 : left ≤ 1048576) (hw : wfIntS x) : CallsA Tryz.prog 55 false [.val none (rIntS .imm x), .val none [I left]] .one [I (szR (szIntS x) left)] := by
  refine fnOk (n := 12) (mo := []) (tb := []) Tryz.func55 (by kernel_rfl) rfl (by kernel_rfl) (by rfl) (.inr ⟨trivial, trivial⟩) ?_
  have hl := hw.1
  repeat' ((conv => whnf); first | with_reducible (first | refine Ln.mk (List.length_map ..) ?_ | refine Wr.mk (wrapI (by omega) (by omega)) ?_ | refine Bf.D (fun h => absurd h (by omega)) (fun h => ?_) | refine Bf.D (fun h => ?_) (fun h => absurd h (by omega)) | refine Bf.D (fun h => ?_) (fun h => ?_) | refine Bf.not ?_ | refine Fin_.mk rfl ?_) | refine Bf.t rfl ?_ | refine Bf.f rfl ?_)
  all_goals exact congrArg (fun z => [I z]) (by unfold szR szIntS; split <;> omega)
theorem szIntSS_ok (x : List (List Int)) (left : Int) (h0 : 0 ≤ left) (h1 : left ≤ 1048576) (hw : wfIntSS x) : CallsA Tryz.prog 58 false [.val none (rIntSS .imm x), .val none [I left]] .one [I (szR (szIntSS x) left)] := by
  refine fnOk (n := 27) (mo := []) (tb := []) Tryz.func58 (by kernel_rfl) rfl (by kernel_rfl) (by rfl) (.inr ⟨trivial, trivial⟩) ?_
  have hl := hw.1
  repeat' ((conv => whnf); first | with_reducible (first | refine Ln.mk (List.length_map ..) ?_ | refine Wr.mk (wrapI (by omega) (by omega)) ?_ | refine Bf.D (fun h => absurd h (by omega)) (fun h => ?_) | refine Bf.D (fun h => ?_) (fun h => absurd h (by omega)) | refine Bf.D (fun h => ?_) (fun h => ?_) | refine Bf.not ?_ | refine Fin_.mk rfl ?_) | refine Bf.t rfl ?_ | refine Bf.f rfl ?_)
  · exact congrArg (fun z => [I z]) (by unfold szR szIntSS; split <;> omega)
  (conv => whnf)
  refine Lp.mk (ι := Nat) (fun i => [(0, .hold .one (rIntSS .imm x)), (1, .hold .one [I (left - x.length - (spreIntSS x i : Nat))]), (5, .hold .one [I (i : Nat)])]) (fun i => i ≤ x.length ∧ (x.length + spreIntSS x i : Int) ≤ left) (fun i => x.length - i) 0 ?_ ⟨Nat.zero_le _, by rw [spreIntSS_zero]; omega⟩ fun i hi => ?_
  · rw [spreIntSS_zero]
    repeat' (first | exact trivial | rfl | exact And.intro rfl (And.intro (congrArg I (by omega)) trivial) | refine And.intro ?_ ?_)
  · obtain ⟨hi, hpi⟩ := hi
    have hpl := spreIntSS_le x i
    by_cases hlt : i < x.length
    · obtain ⟨y, hy⟩ : ∃ y, x[i]? = some y := ⟨_, List.getElem?_eq_getElem hlt⟩
      have hps := spreIntSS_succ x i y hy
      have hpl2 := spreIntSS_le x (i + 1)
      repeat' ((conv => whnf); first | with_reducible (first | refine Ln.mk (List.length_map ..) ?_ | refine Wr.mk (wrapI (by omega) (by omega)) ?_ | refine Ix.nat (get_map hy) ?_ | refine Bf.D (fun h => absurd h (by omega)) (fun h => ?_) | refine Bf.D (fun h => ?_) (fun h => absurd h (by omega)) | refine Bf.D (fun h => ?_) (fun h => ?_) | refine Bf.not ?_ | refine Fin_.mk rfl ?_) | refine Bf.t rfl ?_ | refine Bf.f rfl ?_ | refine Cl.sz (szIntS_ok y _ (by omega) (by omega) (hw.2 y (List.mem_of_getElem? hy))) (fun h => ?_) (fun h => ?_) | refine Nx.mk (i + 1) ⟨by omega, by omega⟩ (by omega) ?_)
      · exact congrArg (fun z => [I z]) (by unfold szR szIntSS; split <;> omega)
      · rw [hps]
        repeat' (first | exact trivial | rfl | exact And.intro rfl (And.intro (congrArg I (by omega)) trivial) | refine And.intro ?_ ?_)
    · repeat' ((conv => whnf); first | with_reducible (first | refine Ln.mk (List.length_map ..) ?_ | refine Wr.mk (wrapI (by omega) (by omega)) ?_ | refine Bf.D (fun h => absurd h (by omega)) (fun h => ?_) | refine Bf.D (fun h => ?_) (fun h => absurd h (by omega)) | refine Bf.D (fun h => ?_) (fun h => ?_) | refine Bf.not ?_ | refine Fin_.mk rfl ?_) | refine Bf.t rfl ?_ | refine Bf.f rfl ?_)
      have he : i = x.length := by omega
      subst he
      rw [spreIntSS_all] at hpi ⊢
      exact congrArg (fun z => [I z]) (by unfold szR szIntSS; split <;> omega)
theorem szBoolS_ok (x : List Bool) (left : Int) (h0 : 0 ≤ left) (h1 : left ≤ 1048576) (hw : wfBoolS x) : CallsA Tryz.prog 109 false [.val none (rBoolS .imm x), .val none [I left]] .one [I (szR (szBoolS x) left)] := by
  refine fnOk (n := 12) (mo := []) (tb := []) Tryz.func109 (by kernel_rfl) rfl (by kernel_rfl) (by rfl) (.inr ⟨trivial, trivial⟩) ?_
  have hl := hw.1
  repeat' ((conv => whnf); first | with_reducible (first | refine Ln.mk (List.length_map ..) ?_ | refine Wr.mk (wrapI (by omega) (by omega)) ?_ | refine Bf.D (fun h => absurd h (by omega)) (fun h => ?_) | refine Bf.D (fun h => ?_) (fun h => absurd h (by omega)) | refine Bf.D (fun h => ?_) (fun h => ?_) | refine Bf.not ?_ | refine Fin_.mk rfl ?_) | refine Bf.t rfl ?_ | refine Bf.f rfl ?_)
  all_goals exact congrArg (fun z => [I z]) (by unfold szR szBoolS; split <;> omega)
theorem szFrames_ok (x : DFrames) (left : Int) (h0 : 0 ≤ left) (h1 : left ≤ 1048576) (hw : DFrames.wf x) : CallsA Tryz.prog 91 false [.val (some 2) (DFrames.enc .imm x), .val none [I left]] .one [I (szR (DFrames.sz x) left)] := by
  obtain ⟨wCells, wUsed⟩ := hw
  refine fnOk (n := 18) (mo := []) (tb := []) Tryz.func91 (by kernel_rfl) rfl (by kernel_rfl) (by rfl) (.inr ⟨trivial, trivial⟩) ?_
  repeat' ((conv => whnf); first | with_reducible (first | refine Ln.mk (List.length_map ..) ?_ | refine Wr.mk (wrapI (by omega) (by omega)) ?_ | refine Bf.D (fun h => absurd h (by omega)) (fun h => ?_) | refine Bf.D (fun h => ?_) (fun h => absurd h (by omega)) | refine Bf.D (fun h => ?_) (fun h => ?_) | refine Bf.not ?_ | refine Fin_.mk rfl ?_) | refine Bf.t rfl ?_ | refine Bf.f rfl ?_ | refine Cl.sz (szIntSS_ok x.Cells _ (by omega) (by omega) wCells) (fun h => ?_) (fun h => ?_) | refine Cl.sz (szBoolS_ok x.Used _ (by omega) (by omega) wUsed) (fun h => ?_) (fun h => ?_))
  all_goals exact congrArg (fun z => [I z]) (by unfold szR DFrames.sz; split <;> omega)
theorem szEntryS_ok (x : List DEntry) (left : Int) (h0 : 0 ≤ left) (h1 : left ≤ 1048576) (hw : wfDEntryS x) : CallsA Tryz.prog 110 false [.val none (rDEntryS .imm x), .val none [I left]] .one [I (szR (szDEntryS x) left)] := by
  refine fnOk (n := 12) (mo := []) (tb := []) Tryz.func110 (by kernel_rfl) rfl (by kernel_rfl) (by rfl) (.inr ⟨trivial, trivial⟩) ?_
  have hl := hw.1
  repeat' ((conv => whnf); first | with_reducible (first | refine Ln.mk (List.length_map ..) ?_ | refine Wr.mk (wrapI (by omega) (by omega)) ?_ | refine Bf.D (fun h => absurd h (by omega)) (fun h => ?_) | refine Bf.D (fun h => ?_) (fun h => absurd h (by omega)) | refine Bf.D (fun h => ?_) (fun h => ?_) | refine Bf.not ?_ | refine Fin_.mk rfl ?_) | refine Bf.t rfl ?_ | refine Bf.f rfl ?_)
  all_goals exact congrArg (fun z => [I z]) (by unfold szR szDEntryS; split <;> omega)
theorem szTable_ok (x : DTable) (left : Int) (h0 : 0 ≤ left) (h1 : left ≤ 1048576) (hw : DTable.wf x) : CallsA Tryz.prog 92 false [.val (some 1) (DTable.enc .imm x), .val none [I left]] .one [I (szR (DTable.sz x) left)] := by
  refine fnOk (n := 12) (mo := []) (tb := []) Tryz.func92 (by kernel_rfl) rfl (by kernel_rfl) (by rfl) (.inr ⟨trivial, trivial⟩) ?_
  repeat' ((conv => whnf); first | with_reducible (first | refine Ln.mk (List.length_map ..) ?_ | refine Wr.mk (wrapI (by omega) (by omega)) ?_ | refine Bf.D (fun h => absurd h (by omega)) (fun h => ?_) | refine Bf.D (fun h => ?_) (fun h => absurd h (by omega)) | refine Bf.D (fun h => ?_) (fun h => ?_) | refine Bf.not ?_ | refine Fin_.mk rfl ?_) | refine Bf.t rfl ?_ | refine Bf.f rfl ?_ | refine Cl.sz (szEntryS_ok x.Entries _ (by omega) (by omega) hw) (fun h => ?_) (fun h => ?_))
  all_goals exact congrArg (fun z => [I z]) (by unfold szR DTable.sz; split <;> omega)
theorem szMachine_ok (x : DMachine) (left : Int) (h0 : 0 ≤ left) (h1 : left ≤ 1048576) (hw : DMachine.wf x) : CallsA Tryz.prog 54 false [.val (some 3) (DMachine.enc .imm x), .val none [I left]] .one [I (szR (DMachine.sz x) left)] := by
  obtain ⟨wFrames, wTable⟩ := hw
  refine fnOk (n := 18) (mo := []) (tb := []) Tryz.func54 (by kernel_rfl) rfl (by kernel_rfl) (by rfl) (.inr ⟨trivial, trivial⟩) ?_
  repeat' ((conv => whnf); first | with_reducible (first | refine Ln.mk (List.length_map ..) ?_ | refine Wr.mk (wrapI (by omega) (by omega)) ?_ | refine Bf.D (fun h => absurd h (by omega)) (fun h => ?_) | refine Bf.D (fun h => ?_) (fun h => absurd h (by omega)) | refine Bf.D (fun h => ?_) (fun h => ?_) | refine Bf.not ?_ | refine Fin_.mk rfl ?_) | refine Bf.t rfl ?_ | refine Bf.f rfl ?_ | refine Cl.sz (szFrames_ok x.Frames _ (by omega) (by omega) wFrames) (fun h => ?_) (fun h => ?_) | refine Cl.sz (szTable_ok x.Table _ (by omega) (by omega) wTable) (fun h => ?_) (fun h => ?_))
  all_goals exact congrArg (fun z => [I z]) (by unfold szR DMachine.sz; split <;> omega)
theorem szKernel_ok (x : DKernel) (left : Int) (h0 : 0 ≤ left) (h1 : left ≤ 1048576) (hw : DKernel.wf x) : CallsA Tryz.prog 16 false [.val (some 5) (DKernel.enc .imm x), .val none [I left]] .one [I (szR (DKernel.sz x) left)] := by
  obtain ⟨wMachine, wCalls, wRefuse⟩ := hw
  refine fnOk (n := 18) (mo := []) (tb := []) Tryz.func16 (by kernel_rfl) rfl (by kernel_rfl) (by rfl) (.inr ⟨trivial, trivial⟩) ?_
  repeat' ((conv => whnf); first | with_reducible (first | refine Ln.mk (List.length_map ..) ?_ | refine Wr.mk (wrapI (by omega) (by omega)) ?_ | refine Bf.D (fun h => absurd h (by omega)) (fun h => ?_) | refine Bf.D (fun h => ?_) (fun h => absurd h (by omega)) | refine Bf.D (fun h => ?_) (fun h => ?_) | refine Bf.not ?_ | refine Fin_.mk rfl ?_) | refine Bf.t rfl ?_ | refine Bf.f rfl ?_ | refine Cl.sz (szMachine_ok x.Machine _ (by omega) (by omega) wMachine) (fun h => ?_) (fun h => ?_) | refine Cl.sz (szIntS_ok x.Refuse _ (by omega) (by omega) wRefuse) (fun h => ?_) (fun h => ?_))
  all_goals exact congrArg (fun z => [I z]) (by unfold szR DKernel.sz; split <;> omega)
theorem szRangeS_ok (x : List DRange) (left : Int) (h0 : 0 ≤ left) (h1 : left ≤ 1048576) (hw : wfDRangeS x) : CallsA Tryz.prog 17 false [.val none (rDRangeS .imm x), .val none [I left]] .one [I (szR (szDRangeS x) left)] := by
  refine fnOk (n := 12) (mo := []) (tb := []) Tryz.func17 (by kernel_rfl) rfl (by kernel_rfl) (by rfl) (.inr ⟨trivial, trivial⟩) ?_
  have hl := hw.1
  repeat' ((conv => whnf); first | with_reducible (first | refine Ln.mk (List.length_map ..) ?_ | refine Wr.mk (wrapI (by omega) (by omega)) ?_ | refine Bf.D (fun h => absurd h (by omega)) (fun h => ?_) | refine Bf.D (fun h => ?_) (fun h => absurd h (by omega)) | refine Bf.D (fun h => ?_) (fun h => ?_) | refine Bf.not ?_ | refine Fin_.mk rfl ?_) | refine Bf.t rfl ?_ | refine Bf.f rfl ?_)
  all_goals exact congrArg (fun z => [I z]) (by unfold szR szDRangeS; split <;> omega)
theorem szSpanS_ok (x : List DSpan) (left : Int) (h0 : 0 ≤ left) (h1 : left ≤ 1048576) (hw : wfDSpanS x) : CallsA Tryz.prog 18 false [.val none (rDSpanS .imm x), .val none [I left]] .one [I (szR (szDSpanS x) left)] := by
  refine fnOk (n := 12) (mo := []) (tb := []) Tryz.func18 (by kernel_rfl) rfl (by kernel_rfl) (by rfl) (.inr ⟨trivial, trivial⟩) ?_
  have hl := hw.1
  repeat' ((conv => whnf); first | with_reducible (first | refine Ln.mk (List.length_map ..) ?_ | refine Wr.mk (wrapI (by omega) (by omega)) ?_ | refine Bf.D (fun h => absurd h (by omega)) (fun h => ?_) | refine Bf.D (fun h => ?_) (fun h => absurd h (by omega)) | refine Bf.D (fun h => ?_) (fun h => ?_) | refine Bf.not ?_ | refine Fin_.mk rfl ?_) | refine Bf.t rfl ?_ | refine Bf.f rfl ?_)
  all_goals exact congrArg (fun z => [I z]) (by unfold szR szDSpanS; split <;> omega)
theorem szLargeS_ok (x : List DLarge) (left : Int) (h0 : 0 ≤ left) (h1 : left ≤ 1048576) (hw : wfDLargeS x) : CallsA Tryz.prog 19 false [.val none (rDLargeS .imm x), .val none [I left]] .one [I (szR (szDLargeS x) left)] := by
  refine fnOk (n := 12) (mo := []) (tb := []) Tryz.func19 (by kernel_rfl) rfl (by kernel_rfl) (by rfl) (.inr ⟨trivial, trivial⟩) ?_
  have hl := hw.1
  repeat' ((conv => whnf); first | with_reducible (first | refine Ln.mk (List.length_map ..) ?_ | refine Wr.mk (wrapI (by omega) (by omega)) ?_ | refine Bf.D (fun h => absurd h (by omega)) (fun h => ?_) | refine Bf.D (fun h => ?_) (fun h => absurd h (by omega)) | refine Bf.D (fun h => ?_) (fun h => ?_) | refine Bf.not ?_ | refine Fin_.mk rfl ?_) | refine Bf.t rfl ?_ | refine Bf.f rfl ?_)
  all_goals exact congrArg (fun z => [I z]) (by unfold szR szDLargeS; split <;> omega)
theorem szObjS_ok (x : List DObj) (left : Int) (h0 : 0 ≤ left) (h1 : left ≤ 1048576) (hw : wfDObjS x) : CallsA Tryz.prog 20 false [.val none (rDObjS .imm x), .val none [I left]] .one [I (szR (szDObjS x) left)] := by
  refine fnOk (n := 12) (mo := []) (tb := []) Tryz.func20 (by kernel_rfl) rfl (by kernel_rfl) (by rfl) (.inr ⟨trivial, trivial⟩) ?_
  have hl := hw.1
  repeat' ((conv => whnf); first | with_reducible (first | refine Ln.mk (List.length_map ..) ?_ | refine Wr.mk (wrapI (by omega) (by omega)) ?_ | refine Bf.D (fun h => absurd h (by omega)) (fun h => ?_) | refine Bf.D (fun h => ?_) (fun h => absurd h (by omega)) | refine Bf.D (fun h => ?_) (fun h => ?_) | refine Bf.not ?_ | refine Fin_.mk rfl ?_) | refine Bf.t rfl ?_ | refine Bf.f rfl ?_)
  all_goals exact congrArg (fun z => [I z]) (by unfold szR szDObjS; split <;> omega)
theorem szCache_ok (x : DCache) (left : Int) (h0 : 0 ≤ left) (h1 : left ≤ 1048576) (hw : DCache.wf x) : CallsA Tryz.prog 56 false [.val (some 1) (DCache.enc .imm x), .val none [I left]] .one [I (szR (DCache.sz x) left)] := by
  refine fnOk (n := 12) (mo := []) (tb := []) Tryz.func56 (by kernel_rfl) rfl (by kernel_rfl) (by rfl) (.inr ⟨trivial, trivial⟩) ?_
  repeat' ((conv => whnf); first | with_reducible (first | refine Ln.mk (List.length_map ..) ?_ | refine Wr.mk (wrapI (by omega) (by omega)) ?_ | refine Bf.D (fun h => absurd h (by omega)) (fun h => ?_) | refine Bf.D (fun h => ?_) (fun h => absurd h (by omega)) | refine Bf.D (fun h => ?_) (fun h => ?_) | refine Bf.not ?_ | refine Fin_.mk rfl ?_) | refine Bf.t rfl ?_ | refine Bf.f rfl ?_ | refine Cl.sz (szIntSS_ok x.Lists _ (by omega) (by omega) hw) (fun h => ?_) (fun h => ?_))
  all_goals exact congrArg (fun z => [I z]) (by unfold szR DCache.sz; split <;> omega)
theorem szCacheS_ok (x : List DCache) (left : Int) (h0 : 0 ≤ left) (h1 : left ≤ 1048576) (hw : wfDCacheS x) : CallsA Tryz.prog 21 false [.val none (rDCacheS .imm x), .val none [I left]] .one [I (szR (szDCacheS x) left)] := by
  refine fnOk (n := 27) (mo := []) (tb := []) Tryz.func21 (by kernel_rfl) rfl (by kernel_rfl) (by rfl) (.inr ⟨trivial, trivial⟩) ?_
  have hl := hw.1
  repeat' ((conv => whnf); first | with_reducible (first | refine Ln.mk (List.length_map ..) ?_ | refine Wr.mk (wrapI (by omega) (by omega)) ?_ | refine Bf.D (fun h => absurd h (by omega)) (fun h => ?_) | refine Bf.D (fun h => ?_) (fun h => absurd h (by omega)) | refine Bf.D (fun h => ?_) (fun h => ?_) | refine Bf.not ?_ | refine Fin_.mk rfl ?_) | refine Bf.t rfl ?_ | refine Bf.f rfl ?_)
  · exact congrArg (fun z => [I z]) (by unfold szR szDCacheS; split <;> omega)
  (conv => whnf)
  refine Lp.mk (ι := Nat) (fun i => [(0, .hold .one (rDCacheS .imm x)), (1, .hold .one [I (left - x.length - (spreDCacheS x i : Nat))]), (5, .hold .one [I (i : Nat)])]) (fun i => i ≤ x.length ∧ (x.length + spreDCacheS x i : Int) ≤ left) (fun i => x.length - i) 0 ?_ ⟨Nat.zero_le _, by rw [spreDCacheS_zero]; omega⟩ fun i hi => ?_
  · rw [spreDCacheS_zero]
    repeat' (first | exact trivial | rfl | exact And.intro rfl (And.intro (congrArg I (by omega)) trivial) | refine And.intro ?_ ?_)
  · obtain ⟨hi, hpi⟩ := hi
    have hpl := spreDCacheS_le x i
    by_cases hlt : i < x.length
    · obtain ⟨y, hy⟩ : ∃ y, x[i]? = some y := ⟨_, List.getElem?_eq_getElem hlt⟩
      have hps := spreDCacheS_succ x i y hy
      have hpl2 := spreDCacheS_le x (i + 1)
      repeat' ((conv => whnf); first | with_reducible (first | refine Ln.mk (List.length_map ..) ?_ | refine Wr.mk (wrapI (by omega) (by omega)) ?_ | refine Ix.nat (get_map hy) ?_ | refine Bf.D (fun h => absurd h (by omega)) (fun h => ?_) | refine Bf.D (fun h => ?_) (fun h => absurd h (by omega)) | refine Bf.D (fun h => ?_) (fun h => ?_) | refine Bf.not ?_ | refine Fin_.mk rfl ?_) | refine Bf.t rfl ?_ | refine Bf.f rfl ?_ | refine Cl.sz (szCache_ok y _ (by omega) (by omega) (hw.2 y (List.mem_of_getElem? hy))) (fun h => ?_) (fun h => ?_) | refine Nx.mk (i + 1) ⟨by omega, by omega⟩ (by omega) ?_)
      · exact congrArg (fun z => [I z]) (by unfold szR szDCacheS; split <;> omega)
      · rw [hps]
        repeat' (first | exact trivial | rfl | exact And.intro rfl (And.intro (congrArg I (by omega)) trivial) | refine And.intro ?_ ?_)
    · repeat' ((conv => whnf); first | with_reducible (first | refine Ln.mk (List.length_map ..) ?_ | refine Wr.mk (wrapI (by omega) (by omega)) ?_ | refine Bf.D (fun h => absurd h (by omega)) (fun h => ?_) | refine Bf.D (fun h => ?_) (fun h => absurd h (by omega)) | refine Bf.D (fun h => ?_) (fun h => ?_) | refine Bf.not ?_ | refine Fin_.mk rfl ?_) | refine Bf.t rfl ?_ | refine Bf.f rfl ?_)
      have he : i = x.length := by omega
      subst he
      rw [spreDCacheS_all] at hpi ⊢
      exact congrArg (fun z => [I z]) (by unfold szR szDCacheS; split <;> omega)
theorem szPostS_ok (x : List DPost) (left : Int) (h0 : 0 ≤ left) (h1 : left ≤ 1048576) (hw : wfDPostS x) : CallsA Tryz.prog 93 false [.val none (rDPostS .imm x), .val none [I left]] .one [I (szR (szDPostS x) left)] := by
  refine fnOk (n := 12) (mo := []) (tb := []) Tryz.func93 (by kernel_rfl) rfl (by kernel_rfl) (by rfl) (.inr ⟨trivial, trivial⟩) ?_
  have hl := hw.1
  repeat' ((conv => whnf); first | with_reducible (first | refine Ln.mk (List.length_map ..) ?_ | refine Wr.mk (wrapI (by omega) (by omega)) ?_ | refine Bf.D (fun h => absurd h (by omega)) (fun h => ?_) | refine Bf.D (fun h => ?_) (fun h => absurd h (by omega)) | refine Bf.D (fun h => ?_) (fun h => ?_) | refine Bf.not ?_ | refine Fin_.mk rfl ?_) | refine Bf.t rfl ?_ | refine Bf.f rfl ?_)
  all_goals exact congrArg (fun z => [I z]) (by unfold szR szDPostS; split <;> omega)
theorem szPostSS_ok (x : List (List DPost)) (left : Int) (h0 : 0 ≤ left) (h1 : left ≤ 1048576) (hw : wfDPostSS x) : CallsA Tryz.prog 57 false [.val none (rDPostSS .imm x), .val none [I left]] .one [I (szR (szDPostSS x) left)] := by
  refine fnOk (n := 27) (mo := []) (tb := []) Tryz.func57 (by kernel_rfl) rfl (by kernel_rfl) (by rfl) (.inr ⟨trivial, trivial⟩) ?_
  have hl := hw.1
  repeat' ((conv => whnf); first | with_reducible (first | refine Ln.mk (List.length_map ..) ?_ | refine Wr.mk (wrapI (by omega) (by omega)) ?_ | refine Bf.D (fun h => absurd h (by omega)) (fun h => ?_) | refine Bf.D (fun h => ?_) (fun h => absurd h (by omega)) | refine Bf.D (fun h => ?_) (fun h => ?_) | refine Bf.not ?_ | refine Fin_.mk rfl ?_) | refine Bf.t rfl ?_ | refine Bf.f rfl ?_)
  · exact congrArg (fun z => [I z]) (by unfold szR szDPostSS; split <;> omega)
  (conv => whnf)
  refine Lp.mk (ι := Nat) (fun i => [(0, .hold .one (rDPostSS .imm x)), (1, .hold .one [I (left - x.length - (spreDPostSS x i : Nat))]), (5, .hold .one [I (i : Nat)])]) (fun i => i ≤ x.length ∧ (x.length + spreDPostSS x i : Int) ≤ left) (fun i => x.length - i) 0 ?_ ⟨Nat.zero_le _, by rw [spreDPostSS_zero]; omega⟩ fun i hi => ?_
  · rw [spreDPostSS_zero]
    repeat' (first | exact trivial | rfl | exact And.intro rfl (And.intro (congrArg I (by omega)) trivial) | refine And.intro ?_ ?_)
  · obtain ⟨hi, hpi⟩ := hi
    have hpl := spreDPostSS_le x i
    by_cases hlt : i < x.length
    · obtain ⟨y, hy⟩ : ∃ y, x[i]? = some y := ⟨_, List.getElem?_eq_getElem hlt⟩
      have hps := spreDPostSS_succ x i y hy
      have hpl2 := spreDPostSS_le x (i + 1)
      repeat' ((conv => whnf); first | with_reducible (first | refine Ln.mk (List.length_map ..) ?_ | refine Wr.mk (wrapI (by omega) (by omega)) ?_ | refine Ix.nat (get_map hy) ?_ | refine Bf.D (fun h => absurd h (by omega)) (fun h => ?_) | refine Bf.D (fun h => ?_) (fun h => absurd h (by omega)) | refine Bf.D (fun h => ?_) (fun h => ?_) | refine Bf.not ?_ | refine Fin_.mk rfl ?_) | refine Bf.t rfl ?_ | refine Bf.f rfl ?_ | refine Cl.sz (szPostS_ok y _ (by omega) (by omega) (hw.2 y (List.mem_of_getElem? hy))) (fun h => ?_) (fun h => ?_) | refine Nx.mk (i + 1) ⟨by omega, by omega⟩ (by omega) ?_)
      · exact congrArg (fun z => [I z]) (by unfold szR szDPostSS; split <;> omega)
      · rw [hps]
        repeat' (first | exact trivial | rfl | exact And.intro rfl (And.intro (congrArg I (by omega)) trivial) | refine And.intro ?_ ?_)
    · repeat' ((conv => whnf); first | with_reducible (first | refine Ln.mk (List.length_map ..) ?_ | refine Wr.mk (wrapI (by omega) (by omega)) ?_ | refine Bf.D (fun h => absurd h (by omega)) (fun h => ?_) | refine Bf.D (fun h => ?_) (fun h => absurd h (by omega)) | refine Bf.D (fun h => ?_) (fun h => ?_) | refine Bf.not ?_ | refine Fin_.mk rfl ?_) | refine Bf.t rfl ?_ | refine Bf.f rfl ?_)
      have he : i = x.length := by omega
      subst he
      rw [spreDPostSS_all] at hpi ⊢
      exact congrArg (fun z => [I z]) (by unfold szR szDPostSS; split <;> omega)
theorem szMail_ok (x : DMail) (left : Int) (h0 : 0 ≤ left) (h1 : left ≤ 1048576) (hw : DMail.wf x) : CallsA Tryz.prog 22 false [.val (some 2) (DMail.enc .imm x), .val none [I left]] .one [I (szR (DMail.sz x) left)] := by
  obtain ⟨wBuffers, wInbox⟩ := hw
  refine fnOk (n := 18) (mo := []) (tb := []) Tryz.func22 (by kernel_rfl) rfl (by kernel_rfl) (by rfl) (.inr ⟨trivial, trivial⟩) ?_
  repeat' ((conv => whnf); first | with_reducible (first | refine Ln.mk (List.length_map ..) ?_ | refine Wr.mk (wrapI (by omega) (by omega)) ?_ | refine Bf.D (fun h => absurd h (by omega)) (fun h => ?_) | refine Bf.D (fun h => ?_) (fun h => absurd h (by omega)) | refine Bf.D (fun h => ?_) (fun h => ?_) | refine Bf.not ?_ | refine Fin_.mk rfl ?_) | refine Bf.t rfl ?_ | refine Bf.f rfl ?_ | refine Cl.sz (szPostSS_ok x.Buffers _ (by omega) (by omega) wBuffers) (fun h => ?_) (fun h => ?_) | refine Cl.sz (szIntSS_ok x.Inbox _ (by omega) (by omega) wInbox) (fun h => ?_) (fun h => ?_))
  all_goals exact congrArg (fun z => [I z]) (by unfold szR DMail.sz; split <;> omega)
theorem szStaleS_ok (x : List DStale) (left : Int) (h0 : 0 ≤ left) (h1 : left ≤ 1048576) (hw : wfDStaleS x) : CallsA Tryz.prog 59 false [.val none (rDStaleS .imm x), .val none [I left]] .one [I (szR (szDStaleS x) left)] := by
  refine fnOk (n := 12) (mo := []) (tb := []) Tryz.func59 (by kernel_rfl) rfl (by kernel_rfl) (by rfl) (.inr ⟨trivial, trivial⟩) ?_
  have hl := hw.1
  repeat' ((conv => whnf); first | with_reducible (first | refine Ln.mk (List.length_map ..) ?_ | refine Wr.mk (wrapI (by omega) (by omega)) ?_ | refine Bf.D (fun h => absurd h (by omega)) (fun h => ?_) | refine Bf.D (fun h => ?_) (fun h => absurd h (by omega)) | refine Bf.D (fun h => ?_) (fun h => ?_) | refine Bf.not ?_ | refine Fin_.mk rfl ?_) | refine Bf.t rfl ?_ | refine Bf.f rfl ?_)
  all_goals exact congrArg (fun z => [I z]) (by unfold szR szDStaleS; split <;> omega)
theorem szQuar_ok (x : DQuar) (left : Int) (h0 : 0 ≤ left) (h1 : left ≤ 1048576) (hw : DQuar.wf x) : CallsA Tryz.prog 23 false [.val (some 2) (DQuar.enc .imm x), .val none [I left]] .one [I (szR (DQuar.sz x) left)] := by
  obtain ⟨wRoom, wLst⟩ := hw
  refine fnOk (n := 12) (mo := []) (tb := []) Tryz.func23 (by kernel_rfl) rfl (by kernel_rfl) (by rfl) (.inr ⟨trivial, trivial⟩) ?_
  repeat' ((conv => whnf); first | with_reducible (first | refine Ln.mk (List.length_map ..) ?_ | refine Wr.mk (wrapI (by omega) (by omega)) ?_ | refine Bf.D (fun h => absurd h (by omega)) (fun h => ?_) | refine Bf.D (fun h => ?_) (fun h => absurd h (by omega)) | refine Bf.D (fun h => ?_) (fun h => ?_) | refine Bf.not ?_ | refine Fin_.mk rfl ?_) | refine Bf.t rfl ?_ | refine Bf.f rfl ?_ | refine Cl.sz (szStaleS_ok x.Lst _ (by omega) (by omega) wLst) (fun h => ?_) (fun h => ?_))
  all_goals exact congrArg (fun z => [I z]) (by unfold szR DQuar.sz; split <;> omega)
theorem szPlan_ok (x : DPlan) (left : Int) (h0 : 0 ≤ left) (h1 : left ≤ 1048576) (hw : DPlan.wf x) : CallsA Tryz.prog 60 false [.val (some 3) (DPlan.enc .imm x), .val none [I left]] .one [I (szR (DPlan.sz x) left)] := by
  obtain ⟨wKeep, wMove, wCells⟩ := hw
  refine fnOk (n := 12) (mo := []) (tb := []) Tryz.func60 (by kernel_rfl) rfl (by kernel_rfl) (by rfl) (.inr ⟨trivial, trivial⟩) ?_
  repeat' ((conv => whnf); first | with_reducible (first | refine Ln.mk (List.length_map ..) ?_ | refine Wr.mk (wrapI (by omega) (by omega)) ?_ | refine Bf.D (fun h => absurd h (by omega)) (fun h => ?_) | refine Bf.D (fun h => ?_) (fun h => absurd h (by omega)) | refine Bf.D (fun h => ?_) (fun h => ?_) | refine Bf.not ?_ | refine Fin_.mk rfl ?_) | refine Bf.t rfl ?_ | refine Bf.f rfl ?_ | refine Cl.sz (szIntS_ok x.Cells _ (by omega) (by omega) wCells) (fun h => ?_) (fun h => ?_))
  all_goals exact congrArg (fun z => [I z]) (by unfold szR DPlan.sz; split <;> omega)
theorem szJob_ok (x : DJob) (left : Int) (h0 : 0 ≤ left) (h1 : left ≤ 1048576) (hw : DJob.wf x) : CallsA Tryz.prog 24 false [.val (some 5) (DJob.enc .imm x), .val none [I left]] .one [I (szR (DJob.sz x) left)] := by
  obtain ⟨wPlan, wPhase, wNext⟩ := hw
  refine fnOk (n := 12) (mo := []) (tb := []) Tryz.func24 (by kernel_rfl) rfl (by kernel_rfl) (by rfl) (.inr ⟨trivial, trivial⟩) ?_
  repeat' ((conv => whnf); first | with_reducible (first | refine Ln.mk (List.length_map ..) ?_ | refine Wr.mk (wrapI (by omega) (by omega)) ?_ | refine Bf.D (fun h => absurd h (by omega)) (fun h => ?_) | refine Bf.D (fun h => ?_) (fun h => absurd h (by omega)) | refine Bf.D (fun h => ?_) (fun h => ?_) | refine Bf.not ?_ | refine Fin_.mk rfl ?_) | refine Bf.t rfl ?_ | refine Bf.f rfl ?_ | refine Cl.sz (szPlan_ok x.Plan _ (by omega) (by omega) wPlan) (fun h => ?_) (fun h => ?_))
  all_goals exact congrArg (fun z => [I z]) (by unfold szR DJob.sz; split <;> omega)
theorem szHeap_ok (x : DHeap) (left : Int) (h0 : 0 ≤ left) (h1 : left ≤ 1048576) (hw : DHeap.wf x) : CallsA Tryz.prog 5 false [.val (some 24) (DHeap.enc .imm x), .val none [I left]] .one [I (szR (DHeap.sz x) left)] := by
  obtain ⟨wKernel, wFree, wSpans, wLarges, wObjs, wCaches, wMail, wQuar, wSeed, wClock, wLimit, wNext, wMeshing, wJob⟩ := hw
  refine fnOk (n := 60) (mo := []) (tb := []) Tryz.func5 (by kernel_rfl) rfl (by kernel_rfl) (by rfl) (.inr ⟨trivial, trivial⟩) ?_
  repeat' ((conv => whnf); first | with_reducible (first | refine Ln.mk (List.length_map ..) ?_ | refine Wr.mk (wrapI (by omega) (by omega)) ?_ | refine Bf.D (fun h => absurd h (by omega)) (fun h => ?_) | refine Bf.D (fun h => ?_) (fun h => absurd h (by omega)) | refine Bf.D (fun h => ?_) (fun h => ?_) | refine Bf.not ?_ | refine Fin_.mk rfl ?_) | refine Bf.t rfl ?_ | refine Bf.f rfl ?_ | refine Cl.sz (szKernel_ok x.Kernel _ (by omega) (by omega) wKernel) (fun h => ?_) (fun h => ?_) | refine Cl.sz (szRangeS_ok x.Free _ (by omega) (by omega) wFree) (fun h => ?_) (fun h => ?_) | refine Cl.sz (szSpanS_ok x.Spans _ (by omega) (by omega) wSpans) (fun h => ?_) (fun h => ?_) | refine Cl.sz (szLargeS_ok x.Larges _ (by omega) (by omega) wLarges) (fun h => ?_) (fun h => ?_) | refine Cl.sz (szObjS_ok x.Objs _ (by omega) (by omega) wObjs) (fun h => ?_) (fun h => ?_) | refine Cl.sz (szCacheS_ok x.Caches _ (by omega) (by omega) wCaches) (fun h => ?_) (fun h => ?_) | refine Cl.sz (szMail_ok x.Mail _ (by omega) (by omega) wMail) (fun h => ?_) (fun h => ?_) | refine Cl.sz (szQuar_ok x.Quar _ (by omega) (by omega) wQuar) (fun h => ?_) (fun h => ?_) | refine Cl.sz (szJob_ok x.Job _ (by omega) (by omega) wJob) (fun h => ?_) (fun h => ?_))
  all_goals exact congrArg (fun z => [I z]) (by unfold szR DHeap.sz; split <;> omega)
end Go.Proofs.YthinjmmlpgjhnaaGreat.Ab
