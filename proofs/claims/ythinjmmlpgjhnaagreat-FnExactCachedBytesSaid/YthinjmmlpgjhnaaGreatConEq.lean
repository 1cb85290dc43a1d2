/- Contracts of the laws' generic functions (eq). Printed by gen_con.py. No condition. -/
import Derived.Test.YthinjmmlpgjhnaaGreatDat
namespace Go.Proofs.YthinjmmlpgjhnaaGreat.Ab
open Go.RowKit
set_option maxRecDepth 20000
set_option maxHeartbeats 2000000

theorem eqIntS_ok (a b : List Int) (hs : smlIntS a) : CallsA Tryz.prog 9 false [.val none (rIntS .imm a), .val none (rIntS .imm b)] .one [B (decide (a = b))] := by
  refine fnOk (n := 26) (mo := []) (tb := [(6, 9, [17, 18, 19, 20, 21, 22, 23, 24, 25])]) Tryz.func9 (by kernel_rfl) rfl (by kernel_rfl) (by rfl) (.inr ⟨trivial, trivial⟩) ?_
  have hl : a.length ≤ 1048576 := hs
  repeat' ((conv => whnf); first | with_reducible (first | refine Ln.mk (List.length_map ..) ?_ | refine Wr.mk (wrapI (by omega) (by omega)) ?_ | refine Bf.N (fun h => ?_) (fun h => ?_) | refine Bf.not ?_ | refine Fin_.mk rfl ?_) | refine Bf.t rfl ?_ | refine Bf.f rfl ?_)
  · refine congrArg (fun z => [B z]) (decide_eq_false fun e => ?_).symm
    subst e
    omega
  have hlab : a.length = b.length := by omega
  (conv => whnf)
  refine Lp.mk (ι := Nat) (fun i => [(0, .hold .one (rIntS .imm a)), (1, .hold .one (rIntS .imm b)), (5, .hold .one [I (i : Nat)])]) (fun i => i ≤ a.length ∧ ∀ j, j < i → a[j]? = b[j]?) (fun i => a.length - i) 0 ?_ ⟨Nat.zero_le _, fun j hj => by omega⟩ fun i hi => ?_
  · repeat' (first | exact trivial | rfl | refine And.intro ?_ ?_)
  · obtain ⟨hi, hall⟩ := hi
    by_cases hlt : i < a.length
    · obtain ⟨x, hx⟩ : ∃ x, a[i]? = some x := ⟨_, List.getElem?_eq_getElem hlt⟩
      obtain ⟨y, hy⟩ : ∃ y, b[i]? = some y := ⟨_, List.getElem?_eq_getElem (by omega)⟩
      repeat' ((conv => whnf); first | with_reducible (first | refine Ln.mk (List.length_map ..) ?_ | refine Wr.mk (wrapI (by omega) (by omega)) ?_ | refine Ix.nat (get_map hx) ?_ | refine Ix.nat (get_map hy) ?_ | refine Bf.D (fun h => ?_) (fun h => absurd h (by omega)) | refine Bf.N (fun h => ?_) (fun h => ?_) | refine Bf.NB (fun h => ?_) (fun h => ?_) | refine Bf.D (fun h => ?_) (fun h => ?_) | refine Bf.not ?_ | refine Fin_.mk rfl ?_) | refine Bf.t rfl ?_ | refine Bf.f rfl ?_)
      all_goals first
        | (show [B false] = [B (decide (a = b))]
           refine congrArg (fun z => [B z]) (decide_eq_false fun e => ?_).symm
           subst e
           simp_all)
        | ((conv => whnf)
           refine Nx.mk (i + 1) ⟨by omega, fun j hj => ?_⟩ (by omega) ?_
           · rcases Nat.lt_or_ge j i with h1 | h1
             · exact hall j h1
             · obtain rfl : j = i := by omega
               rw [hx, hy]
               simp_all
           · repeat' (first | exact trivial | rfl | refine And.intro ?_ ?_))
    · repeat' ((conv => whnf); first | with_reducible (first | refine Ln.mk (List.length_map ..) ?_ | refine Wr.mk (wrapI (by omega) (by omega)) ?_ | refine Bf.D (fun h => absurd h (by omega)) (fun h => ?_) | refine Bf.not ?_ | refine Fin_.mk rfl ?_) | refine Bf.t rfl ?_ | refine Bf.f rfl ?_)
      refine congrArg (fun z => [B z]) (decide_eq_true ?_).symm
      refine List.ext_getElem? fun j => ?_
      rcases Nat.lt_or_ge j i with h1 | h1
      · exact hall j h1
      · rw [List.getElem?_eq_none (by omega), List.getElem?_eq_none (by omega)]
theorem eqIntSS_ok (a b : List (List Int)) (hs : smlIntSS a) : CallsA Tryz.prog 79 false [.val none (rIntSS .imm a), .val none (rIntSS .imm b)] .one [B (decide (a = b))] := by
  refine fnOk (n := 27) (mo := []) (tb := [(6, 10, [17, 18, 19, 20, 21, 22, 23, 24, 25, 26])]) Tryz.func79 (by kernel_rfl) rfl (by kernel_rfl) (by rfl) (.inr ⟨trivial, trivial⟩) ?_
  have hl : a.length ≤ 1048576 := hs.1
  repeat' ((conv => whnf); first | with_reducible (first | refine Ln.mk (List.length_map ..) ?_ | refine Wr.mk (wrapI (by omega) (by omega)) ?_ | refine Bf.N (fun h => ?_) (fun h => ?_) | refine Bf.not ?_ | refine Fin_.mk rfl ?_) | refine Bf.t rfl ?_ | refine Bf.f rfl ?_)
  · refine congrArg (fun z => [B z]) (decide_eq_false fun e => ?_).symm
    subst e
    omega
  have hlab : a.length = b.length := by omega
  (conv => whnf)
  refine Lp.mk (ι := Nat) (fun i => [(0, .hold .one (rIntSS .imm a)), (1, .hold .one (rIntSS .imm b)), (5, .hold .one [I (i : Nat)])]) (fun i => i ≤ a.length ∧ ∀ j, j < i → a[j]? = b[j]?) (fun i => a.length - i) 0 ?_ ⟨Nat.zero_le _, fun j hj => by omega⟩ fun i hi => ?_
  · repeat' (first | exact trivial | rfl | refine And.intro ?_ ?_)
  · obtain ⟨hi, hall⟩ := hi
    by_cases hlt : i < a.length
    · obtain ⟨x, hx⟩ : ∃ x, a[i]? = some x := ⟨_, List.getElem?_eq_getElem hlt⟩
      obtain ⟨y, hy⟩ : ∃ y, b[i]? = some y := ⟨_, List.getElem?_eq_getElem (by omega)⟩
      repeat' ((conv => whnf); first | with_reducible (first | refine Ln.mk (List.length_map ..) ?_ | refine Wr.mk (wrapI (by omega) (by omega)) ?_ | refine Ix.nat (get_map hx) ?_ | refine Ix.nat (get_map hy) ?_ | refine Bf.D (fun h => ?_) (fun h => absurd h (by omega)) | refine Bf.N (fun h => ?_) (fun h => ?_) | refine Bf.NB (fun h => ?_) (fun h => ?_) | refine Bf.D (fun h => ?_) (fun h => ?_) | refine Bf.not ?_ | refine Fin_.mk rfl ?_) | refine Bf.t rfl ?_ | refine Bf.f rfl ?_ | refine Cl.mk (eqIntS_ok x y (hs.2 x (List.mem_of_getElem? hx))) ?_)
      all_goals first
        | (show [B false] = [B (decide (a = b))]
           refine congrArg (fun z => [B z]) (decide_eq_false fun e => ?_).symm
           subst e
           simp_all)
        | ((conv => whnf)
           refine Nx.mk (i + 1) ⟨by omega, fun j hj => ?_⟩ (by omega) ?_
           · rcases Nat.lt_or_ge j i with h1 | h1
             · exact hall j h1
             · obtain rfl : j = i := by omega
               rw [hx, hy]
               simp_all
           · repeat' (first | exact trivial | rfl | refine And.intro ?_ ?_))
    · repeat' ((conv => whnf); first | with_reducible (first | refine Ln.mk (List.length_map ..) ?_ | refine Wr.mk (wrapI (by omega) (by omega)) ?_ | refine Bf.D (fun h => absurd h (by omega)) (fun h => ?_) | refine Bf.not ?_ | refine Fin_.mk rfl ?_) | refine Bf.t rfl ?_ | refine Bf.f rfl ?_)
      refine congrArg (fun z => [B z]) (decide_eq_true ?_).symm
      refine List.ext_getElem? fun j => ?_
      rcases Nat.lt_or_ge j i with h1 | h1
      · exact hall j h1
      · rw [List.getElem?_eq_none (by omega), List.getElem?_eq_none (by omega)]
theorem eqBoolS_ok (a b : List Bool) (hs : smlBoolS a) : CallsA Tryz.prog 114 false [.val none (rBoolS .imm a), .val none (rBoolS .imm b)] .one [B (decide (a = b))] := by
  refine fnOk (n := 26) (mo := []) (tb := [(6, 9, [17, 18, 19, 20, 21, 22, 23, 24, 25])]) Tryz.func114 (by kernel_rfl) rfl (by kernel_rfl) (by rfl) (.inr ⟨trivial, trivial⟩) ?_
  have hl : a.length ≤ 1048576 := hs
  repeat' ((conv => whnf); first | with_reducible (first | refine Ln.mk (List.length_map ..) ?_ | refine Wr.mk (wrapI (by omega) (by omega)) ?_ | refine Bf.N (fun h => ?_) (fun h => ?_) | refine Bf.not ?_ | refine Fin_.mk rfl ?_) | refine Bf.t rfl ?_ | refine Bf.f rfl ?_)
  · refine congrArg (fun z => [B z]) (decide_eq_false fun e => ?_).symm
    subst e
    omega
  have hlab : a.length = b.length := by omega
  (conv => whnf)
  refine Lp.mk (ι := Nat) (fun i => [(0, .hold .one (rBoolS .imm a)), (1, .hold .one (rBoolS .imm b)), (5, .hold .one [I (i : Nat)])]) (fun i => i ≤ a.length ∧ ∀ j, j < i → a[j]? = b[j]?) (fun i => a.length - i) 0 ?_ ⟨Nat.zero_le _, fun j hj => by omega⟩ fun i hi => ?_
  · repeat' (first | exact trivial | rfl | refine And.intro ?_ ?_)
  · obtain ⟨hi, hall⟩ := hi
    by_cases hlt : i < a.length
    · obtain ⟨x, hx⟩ : ∃ x, a[i]? = some x := ⟨_, List.getElem?_eq_getElem hlt⟩
      obtain ⟨y, hy⟩ : ∃ y, b[i]? = some y := ⟨_, List.getElem?_eq_getElem (by omega)⟩
      repeat' ((conv => whnf); first | with_reducible (first | refine Ln.mk (List.length_map ..) ?_ | refine Wr.mk (wrapI (by omega) (by omega)) ?_ | refine Ix.nat (get_map hx) ?_ | refine Ix.nat (get_map hy) ?_ | refine Bf.D (fun h => ?_) (fun h => absurd h (by omega)) | refine Bf.N (fun h => ?_) (fun h => ?_) | refine Bf.NB (fun h => ?_) (fun h => ?_) | refine Bf.D (fun h => ?_) (fun h => ?_) | refine Bf.not ?_ | refine Fin_.mk rfl ?_) | refine Bf.t rfl ?_ | refine Bf.f rfl ?_)
      all_goals first
        | (show [B false] = [B (decide (a = b))]
           refine congrArg (fun z => [B z]) (decide_eq_false fun e => ?_).symm
           subst e
           simp_all)
        | ((conv => whnf)
           refine Nx.mk (i + 1) ⟨by omega, fun j hj => ?_⟩ (by omega) ?_
           · rcases Nat.lt_or_ge j i with h1 | h1
             · exact hall j h1
             · obtain rfl : j = i := by omega
               rw [hx, hy]
               simp_all
           · repeat' (first | exact trivial | rfl | refine And.intro ?_ ?_))
    · repeat' ((conv => whnf); first | with_reducible (first | refine Ln.mk (List.length_map ..) ?_ | refine Wr.mk (wrapI (by omega) (by omega)) ?_ | refine Bf.D (fun h => absurd h (by omega)) (fun h => ?_) | refine Bf.not ?_ | refine Fin_.mk rfl ?_) | refine Bf.t rfl ?_ | refine Bf.f rfl ?_)
      refine congrArg (fun z => [B z]) (decide_eq_true ?_).symm
      refine List.ext_getElem? fun j => ?_
      rcases Nat.lt_or_ge j i with h1 | h1
      · exact hall j h1
      · rw [List.getElem?_eq_none (by omega), List.getElem?_eq_none (by omega)]
theorem eqFrames_ok (a b : DFrames) (hs : DFrames.sml a) : CallsA Tryz.prog 98 false [.val (some 2) (DFrames.enc .imm a), .val (some 2) (DFrames.enc .imm b)] .one [B (decide (a = b))] := by
  obtain ⟨h0, h1⟩ := hs
  refine fnOk (n := 17) (mo := []) (tb := []) Tryz.func98 (by kernel_rfl) rfl (by kernel_rfl) (by rfl) (.inr ⟨trivial, trivial⟩) ?_
  repeat' ((conv => whnf); first | with_reducible (first | refine Ln.mk (List.length_map ..) ?_ | refine Wr.mk (wrapI (by omega) (by omega)) ?_ | refine Bf.N (fun h => ?_) (fun h => ?_) | refine Bf.NB (fun h => ?_) (fun h => ?_) | refine Bf.D (fun h => ?_) (fun h => ?_) | refine Bf.not ?_ | refine Fin_.mk rfl ?_) | refine Bf.t rfl ?_ | refine Bf.f rfl ?_ | refine Cl.mk (eqIntSS_ok a.Cells b.Cells h0) ?_ | refine Cl.mk (eqBoolS_ok a.Used b.Used h1) ?_)
  all_goals first | (show [B false] = [B (decide (a = b))]; refine congrArg (fun z => [B z]) (decide_eq_false fun e => ?_).symm; subst e; contradiction) | (show [B true] = [B (decide (a = b))]; refine congrArg (fun z => [B z]) (decide_eq_true ?_).symm; cases a; cases b; simp_all)
theorem eqEntry_ok (a b : DEntry) (hs : DEntry.sml a) : CallsA Tryz.prog 120 false [.val (some 2) (DEntry.enc .imm a), .val (some 2) (DEntry.enc .imm b)] .one [B (decide (a = b))] := by
  refine fnOk (n := 15) (mo := []) (tb := []) Tryz.func120 (by kernel_rfl) rfl (by kernel_rfl) (by rfl) (.inr ⟨trivial, trivial⟩) ?_
  repeat' ((conv => whnf); first | with_reducible (first | refine Ln.mk (List.length_map ..) ?_ | refine Wr.mk (wrapI (by omega) (by omega)) ?_ | refine Bf.N (fun h => ?_) (fun h => ?_) | refine Bf.NB (fun h => ?_) (fun h => ?_) | refine Bf.D (fun h => ?_) (fun h => ?_) | refine Bf.not ?_ | refine Fin_.mk rfl ?_) | refine Bf.t rfl ?_ | refine Bf.f rfl ?_)
  all_goals first | (show [B false] = [B (decide (a = b))]; refine congrArg (fun z => [B z]) (decide_eq_false fun e => ?_).symm; subst e; contradiction) | (show [B true] = [B (decide (a = b))]; refine congrArg (fun z => [B z]) (decide_eq_true ?_).symm; cases a; cases b; simp_all)
theorem eqEntryS_ok (a b : List DEntry) (hs : smlDEntryS a) : CallsA Tryz.prog 115 false [.val none (rDEntryS .imm a), .val none (rDEntryS .imm b)] .one [B (decide (a = b))] := by
  refine fnOk (n := 27) (mo := []) (tb := [(6, 10, [17, 18, 19, 20, 21, 22, 23, 24, 25, 26])]) Tryz.func115 (by kernel_rfl) rfl (by kernel_rfl) (by rfl) (.inr ⟨trivial, trivial⟩) ?_
  have hl : a.length ≤ 1048576 := hs.1
  repeat' ((conv => whnf); first | with_reducible (first | refine Ln.mk (List.length_map ..) ?_ | refine Wr.mk (wrapI (by omega) (by omega)) ?_ | refine Bf.N (fun h => ?_) (fun h => ?_) | refine Bf.not ?_ | refine Fin_.mk rfl ?_) | refine Bf.t rfl ?_ | refine Bf.f rfl ?_)
  · refine congrArg (fun z => [B z]) (decide_eq_false fun e => ?_).symm
    subst e
    omega
  have hlab : a.length = b.length := by omega
  (conv => whnf)
  refine Lp.mk (ι := Nat) (fun i => [(0, .hold .one (rDEntryS .imm a)), (1, .hold .one (rDEntryS .imm b)), (5, .hold .one [I (i : Nat)])]) (fun i => i ≤ a.length ∧ ∀ j, j < i → a[j]? = b[j]?) (fun i => a.length - i) 0 ?_ ⟨Nat.zero_le _, fun j hj => by omega⟩ fun i hi => ?_
  · repeat' (first | exact trivial | rfl | refine And.intro ?_ ?_)
  · obtain ⟨hi, hall⟩ := hi
    by_cases hlt : i < a.length
    · obtain ⟨x, hx⟩ : ∃ x, a[i]? = some x := ⟨_, List.getElem?_eq_getElem hlt⟩
      obtain ⟨y, hy⟩ : ∃ y, b[i]? = some y := ⟨_, List.getElem?_eq_getElem (by omega)⟩
      repeat' ((conv => whnf); first | with_reducible (first | refine Ln.mk (List.length_map ..) ?_ | refine Wr.mk (wrapI (by omega) (by omega)) ?_ | refine Ix.nat (get_map hx) ?_ | refine Ix.nat (get_map hy) ?_ | refine Bf.D (fun h => ?_) (fun h => absurd h (by omega)) | refine Bf.N (fun h => ?_) (fun h => ?_) | refine Bf.NB (fun h => ?_) (fun h => ?_) | refine Bf.D (fun h => ?_) (fun h => ?_) | refine Bf.not ?_ | refine Fin_.mk rfl ?_) | refine Bf.t rfl ?_ | refine Bf.f rfl ?_ | refine Cl.mk (eqEntry_ok x y trivial) ?_)
      all_goals first
        | (show [B false] = [B (decide (a = b))]
           refine congrArg (fun z => [B z]) (decide_eq_false fun e => ?_).symm
           subst e
           simp_all)
        | ((conv => whnf)
           refine Nx.mk (i + 1) ⟨by omega, fun j hj => ?_⟩ (by omega) ?_
           · rcases Nat.lt_or_ge j i with h1 | h1
             · exact hall j h1
             · obtain rfl : j = i := by omega
               rw [hx, hy]
               simp_all
           · repeat' (first | exact trivial | rfl | refine And.intro ?_ ?_))
    · repeat' ((conv => whnf); first | with_reducible (first | refine Ln.mk (List.length_map ..) ?_ | refine Wr.mk (wrapI (by omega) (by omega)) ?_ | refine Bf.D (fun h => absurd h (by omega)) (fun h => ?_) | refine Bf.not ?_ | refine Fin_.mk rfl ?_) | refine Bf.t rfl ?_ | refine Bf.f rfl ?_)
      refine congrArg (fun z => [B z]) (decide_eq_true ?_).symm
      refine List.ext_getElem? fun j => ?_
      rcases Nat.lt_or_ge j i with h1 | h1
      · exact hall j h1
      · rw [List.getElem?_eq_none (by omega), List.getElem?_eq_none (by omega)]
theorem eqTable_ok (a b : DTable) (hs : DTable.sml a) : CallsA Tryz.prog 99 false [.val (some 1) (DTable.enc .imm a), .val (some 1) (DTable.enc .imm b)] .one [B (decide (a = b))] := by
  have h0 := hs
  refine fnOk (n := 11) (mo := []) (tb := []) Tryz.func99 (by kernel_rfl) rfl (by kernel_rfl) (by rfl) (.inr ⟨trivial, trivial⟩) ?_
  repeat' ((conv => whnf); first | with_reducible (first | refine Ln.mk (List.length_map ..) ?_ | refine Wr.mk (wrapI (by omega) (by omega)) ?_ | refine Bf.N (fun h => ?_) (fun h => ?_) | refine Bf.NB (fun h => ?_) (fun h => ?_) | refine Bf.D (fun h => ?_) (fun h => ?_) | refine Bf.not ?_ | refine Fin_.mk rfl ?_) | refine Bf.t rfl ?_ | refine Bf.f rfl ?_ | refine Cl.mk (eqEntryS_ok a.Entries b.Entries h0) ?_)
  all_goals first | (show [B false] = [B (decide (a = b))]; refine congrArg (fun z => [B z]) (decide_eq_false fun e => ?_).symm; subst e; contradiction) | (show [B true] = [B (decide (a = b))]; refine congrArg (fun z => [B z]) (decide_eq_true ?_).symm; cases a; cases b; simp_all)
theorem eqMachine_ok (a b : DMachine) (hs : DMachine.sml a) : CallsA Tryz.prog 72 false [.val (some 3) (DMachine.enc .imm a), .val (some 3) (DMachine.enc .imm b)] .one [B (decide (a = b))] := by
  obtain ⟨h0, h1⟩ := hs
  refine fnOk (n := 17) (mo := []) (tb := []) Tryz.func72 (by kernel_rfl) rfl (by kernel_rfl) (by rfl) (.inr ⟨trivial, trivial⟩) ?_
  repeat' ((conv => whnf); first | with_reducible (first | refine Ln.mk (List.length_map ..) ?_ | refine Wr.mk (wrapI (by omega) (by omega)) ?_ | refine Bf.N (fun h => ?_) (fun h => ?_) | refine Bf.NB (fun h => ?_) (fun h => ?_) | refine Bf.D (fun h => ?_) (fun h => ?_) | refine Bf.not ?_ | refine Fin_.mk rfl ?_) | refine Bf.t rfl ?_ | refine Bf.f rfl ?_ | refine Cl.mk (eqFrames_ok a.Frames b.Frames h0) ?_ | refine Cl.mk (eqTable_ok a.Table b.Table h1) ?_)
  all_goals first | (show [B false] = [B (decide (a = b))]; refine congrArg (fun z => [B z]) (decide_eq_false fun e => ?_).symm; subst e; contradiction) | (show [B true] = [B (decide (a = b))]; refine congrArg (fun z => [B z]) (decide_eq_true ?_).symm; cases a; cases b; simp_all)
theorem eqKernel_ok (a b : DKernel) (hs : DKernel.sml a) : CallsA Tryz.prog 34 false [.val (some 5) (DKernel.enc .imm a), .val (some 5) (DKernel.enc .imm b)] .one [B (decide (a = b))] := by
  obtain ⟨h0, h1⟩ := hs
  refine fnOk (n := 22) (mo := []) (tb := []) Tryz.func34 (by kernel_rfl) rfl (by kernel_rfl) (by rfl) (.inr ⟨trivial, trivial⟩) ?_
  repeat' ((conv => whnf); first | with_reducible (first | refine Ln.mk (List.length_map ..) ?_ | refine Wr.mk (wrapI (by omega) (by omega)) ?_ | refine Bf.N (fun h => ?_) (fun h => ?_) | refine Bf.NB (fun h => ?_) (fun h => ?_) | refine Bf.D (fun h => ?_) (fun h => ?_) | refine Bf.not ?_ | refine Fin_.mk rfl ?_) | refine Bf.t rfl ?_ | refine Bf.f rfl ?_ | refine Cl.mk (eqMachine_ok a.Machine b.Machine h0) ?_ | refine Cl.mk (eqIntS_ok a.Refuse b.Refuse h1) ?_)
  all_goals first | (show [B false] = [B (decide (a = b))]; refine congrArg (fun z => [B z]) (decide_eq_false fun e => ?_).symm; subst e; contradiction) | (show [B true] = [B (decide (a = b))]; refine congrArg (fun z => [B z]) (decide_eq_true ?_).symm; cases a; cases b; simp_all)
theorem eqRange_ok (a b : DRange) (hs : DRange.sml a) : CallsA Tryz.prog 73 false [.val (some 2) (DRange.enc .imm a), .val (some 2) (DRange.enc .imm b)] .one [B (decide (a = b))] := by
  refine fnOk (n := 15) (mo := []) (tb := []) Tryz.func73 (by kernel_rfl) rfl (by kernel_rfl) (by rfl) (.inr ⟨trivial, trivial⟩) ?_
  repeat' ((conv => whnf); first | with_reducible (first | refine Ln.mk (List.length_map ..) ?_ | refine Wr.mk (wrapI (by omega) (by omega)) ?_ | refine Bf.N (fun h => ?_) (fun h => ?_) | refine Bf.NB (fun h => ?_) (fun h => ?_) | refine Bf.D (fun h => ?_) (fun h => ?_) | refine Bf.not ?_ | refine Fin_.mk rfl ?_) | refine Bf.t rfl ?_ | refine Bf.f rfl ?_)
  all_goals first | (show [B false] = [B (decide (a = b))]; refine congrArg (fun z => [B z]) (decide_eq_false fun e => ?_).symm; subst e; contradiction) | (show [B true] = [B (decide (a = b))]; refine congrArg (fun z => [B z]) (decide_eq_true ?_).symm; cases a; cases b; simp_all)
theorem eqRangeS_ok (a b : List DRange) (hs : smlDRangeS a) : CallsA Tryz.prog 35 false [.val none (rDRangeS .imm a), .val none (rDRangeS .imm b)] .one [B (decide (a = b))] := by
  refine fnOk (n := 27) (mo := []) (tb := [(6, 10, [17, 18, 19, 20, 21, 22, 23, 24, 25, 26])]) Tryz.func35 (by kernel_rfl) rfl (by kernel_rfl) (by rfl) (.inr ⟨trivial, trivial⟩) ?_
  have hl : a.length ≤ 1048576 := hs.1
  repeat' ((conv => whnf); first | with_reducible (first | refine Ln.mk (List.length_map ..) ?_ | refine Wr.mk (wrapI (by omega) (by omega)) ?_ | refine Bf.N (fun h => ?_) (fun h => ?_) | refine Bf.not ?_ | refine Fin_.mk rfl ?_) | refine Bf.t rfl ?_ | refine Bf.f rfl ?_)
  · refine congrArg (fun z => [B z]) (decide_eq_false fun e => ?_).symm
    subst e
    omega
  have hlab : a.length = b.length := by omega
  (conv => whnf)
  refine Lp.mk (ι := Nat) (fun i => [(0, .hold .one (rDRangeS .imm a)), (1, .hold .one (rDRangeS .imm b)), (5, .hold .one [I (i : Nat)])]) (fun i => i ≤ a.length ∧ ∀ j, j < i → a[j]? = b[j]?) (fun i => a.length - i) 0 ?_ ⟨Nat.zero_le _, fun j hj => by omega⟩ fun i hi => ?_
  · repeat' (first | exact trivial | rfl | refine And.intro ?_ ?_)
  · obtain ⟨hi, hall⟩ := hi
    by_cases hlt : i < a.length
    · obtain ⟨x, hx⟩ : ∃ x, a[i]? = some x := ⟨_, List.getElem?_eq_getElem hlt⟩
      obtain ⟨y, hy⟩ : ∃ y, b[i]? = some y := ⟨_, List.getElem?_eq_getElem (by omega)⟩
      repeat' ((conv => whnf); first | with_reducible (first | refine Ln.mk (List.length_map ..) ?_ | refine Wr.mk (wrapI (by omega) (by omega)) ?_ | refine Ix.nat (get_map hx) ?_ | refine Ix.nat (get_map hy) ?_ | refine Bf.D (fun h => ?_) (fun h => absurd h (by omega)) | refine Bf.N (fun h => ?_) (fun h => ?_) | refine Bf.NB (fun h => ?_) (fun h => ?_) | refine Bf.D (fun h => ?_) (fun h => ?_) | refine Bf.not ?_ | refine Fin_.mk rfl ?_) | refine Bf.t rfl ?_ | refine Bf.f rfl ?_ | refine Cl.mk (eqRange_ok x y trivial) ?_)
      all_goals first
        | (show [B false] = [B (decide (a = b))]
           refine congrArg (fun z => [B z]) (decide_eq_false fun e => ?_).symm
           subst e
           simp_all)
        | ((conv => whnf)
           refine Nx.mk (i + 1) ⟨by omega, fun j hj => ?_⟩ (by omega) ?_
           · rcases Nat.lt_or_ge j i with h1 | h1
             · exact hall j h1
             · obtain rfl : j = i := by omega
               rw [hx, hy]
               simp_all
           · repeat' (first | exact trivial | rfl | refine And.intro ?_ ?_))
    · repeat' ((conv => whnf); first | with_reducible (first | refine Ln.mk (List.length_map ..) ?_ | refine Wr.mk (wrapI (by omega) (by omega)) ?_ | refine Bf.D (fun h => absurd h (by omega)) (fun h => ?_) | refine Bf.not ?_ | refine Fin_.mk rfl ?_) | refine Bf.t rfl ?_ | refine Bf.f rfl ?_)
      refine congrArg (fun z => [B z]) (decide_eq_true ?_).symm
      refine List.ext_getElem? fun j => ?_
      rcases Nat.lt_or_ge j i with h1 | h1
      · exact hall j h1
      · rw [List.getElem?_eq_none (by omega), List.getElem?_eq_none (by omega)]
theorem eqSpan_ok (a b : DSpan) (hs : DSpan.sml a) : CallsA Tryz.prog 74 false [.val (some 3) (DSpan.enc .imm a), .val (some 3) (DSpan.enc .imm b)] .one [B (decide (a = b))] := by
  refine fnOk (n := 20) (mo := []) (tb := []) Tryz.func74 (by kernel_rfl) rfl (by kernel_rfl) (by rfl) (.inr ⟨trivial, trivial⟩) ?_
  repeat' ((conv => whnf); first | with_reducible (first | refine Ln.mk (List.length_map ..) ?_ | refine Wr.mk (wrapI (by omega) (by omega)) ?_ | refine Bf.N (fun h => ?_) (fun h => ?_) | refine Bf.NB (fun h => ?_) (fun h => ?_) | refine Bf.D (fun h => ?_) (fun h => ?_) | refine Bf.not ?_ | refine Fin_.mk rfl ?_) | refine Bf.t rfl ?_ | refine Bf.f rfl ?_)
  all_goals first | (show [B false] = [B (decide (a = b))]; refine congrArg (fun z => [B z]) (decide_eq_false fun e => ?_).symm; subst e; contradiction) | (show [B true] = [B (decide (a = b))]; refine congrArg (fun z => [B z]) (decide_eq_true ?_).symm; cases a; cases b; simp_all)
theorem eqSpanS_ok (a b : List DSpan) (hs : smlDSpanS a) : CallsA Tryz.prog 36 false [.val none (rDSpanS .imm a), .val none (rDSpanS .imm b)] .one [B (decide (a = b))] := by
  refine fnOk (n := 27) (mo := []) (tb := [(6, 10, [17, 18, 19, 20, 21, 22, 23, 24, 25, 26])]) Tryz.func36 (by kernel_rfl) rfl (by kernel_rfl) (by rfl) (.inr ⟨trivial, trivial⟩) ?_
  have hl : a.length ≤ 1048576 := hs.1
  repeat' ((conv => whnf); first | with_reducible (first | refine Ln.mk (List.length_map ..) ?_ | refine Wr.mk (wrapI (by omega) (by omega)) ?_ | refine Bf.N (fun h => ?_) (fun h => ?_) | refine Bf.not ?_ | refine Fin_.mk rfl ?_) | refine Bf.t rfl ?_ | refine Bf.f rfl ?_)
  · refine congrArg (fun z => [B z]) (decide_eq_false fun e => ?_).symm
    subst e
    omega
  have hlab : a.length = b.length := by omega
  (conv => whnf)
  refine Lp.mk (ι := Nat) (fun i => [(0, .hold .one (rDSpanS .imm a)), (1, .hold .one (rDSpanS .imm b)), (5, .hold .one [I (i : Nat)])]) (fun i => i ≤ a.length ∧ ∀ j, j < i → a[j]? = b[j]?) (fun i => a.length - i) 0 ?_ ⟨Nat.zero_le _, fun j hj => by omega⟩ fun i hi => ?_
  · repeat' (first | exact trivial | rfl | refine And.intro ?_ ?_)
  · obtain ⟨hi, hall⟩ := hi
    by_cases hlt : i < a.length
    · obtain ⟨x, hx⟩ : ∃ x, a[i]? = some x := ⟨_, List.getElem?_eq_getElem hlt⟩
      obtain ⟨y, hy⟩ : ∃ y, b[i]? = some y := ⟨_, List.getElem?_eq_getElem (by omega)⟩
      repeat' ((conv => whnf); first | with_reducible (first | refine Ln.mk (List.length_map ..) ?_ | refine Wr.mk (wrapI (by omega) (by omega)) ?_ | refine Ix.nat (get_map hx) ?_ | refine Ix.nat (get_map hy) ?_ | refine Bf.D (fun h => ?_) (fun h => absurd h (by omega)) | refine Bf.N (fun h => ?_) (fun h => ?_) | refine Bf.NB (fun h => ?_) (fun h => ?_) | refine Bf.D (fun h => ?_) (fun h => ?_) | refine Bf.not ?_ | refine Fin_.mk rfl ?_) | refine Bf.t rfl ?_ | refine Bf.f rfl ?_ | refine Cl.mk (eqSpan_ok x y trivial) ?_)
      all_goals first
        | (show [B false] = [B (decide (a = b))]
           refine congrArg (fun z => [B z]) (decide_eq_false fun e => ?_).symm
           subst e
           simp_all)
        | ((conv => whnf)
           refine Nx.mk (i + 1) ⟨by omega, fun j hj => ?_⟩ (by omega) ?_
           · rcases Nat.lt_or_ge j i with h1 | h1
             · exact hall j h1
             · obtain rfl : j = i := by omega
               rw [hx, hy]
               simp_all
           · repeat' (first | exact trivial | rfl | refine And.intro ?_ ?_))
    · repeat' ((conv => whnf); first | with_reducible (first | refine Ln.mk (List.length_map ..) ?_ | refine Wr.mk (wrapI (by omega) (by omega)) ?_ | refine Bf.D (fun h => absurd h (by omega)) (fun h => ?_) | refine Bf.not ?_ | refine Fin_.mk rfl ?_) | refine Bf.t rfl ?_ | refine Bf.f rfl ?_)
      refine congrArg (fun z => [B z]) (decide_eq_true ?_).symm
      refine List.ext_getElem? fun j => ?_
      rcases Nat.lt_or_ge j i with h1 | h1
      · exact hall j h1
      · rw [List.getElem?_eq_none (by omega), List.getElem?_eq_none (by omega)]
theorem eqLarge_ok (a b : DLarge) (hs : DLarge.sml a) : CallsA Tryz.prog 75 false [.val (some 3) (DLarge.enc .imm a), .val (some 3) (DLarge.enc .imm b)] .one [B (decide (a = b))] := by
  refine fnOk (n := 20) (mo := []) (tb := []) Tryz.func75 (by kernel_rfl) rfl (by kernel_rfl) (by rfl) (.inr ⟨trivial, trivial⟩) ?_
  repeat' ((conv => whnf); first | with_reducible (first | refine Ln.mk (List.length_map ..) ?_ | refine Wr.mk (wrapI (by omega) (by omega)) ?_ | refine Bf.N (fun h => ?_) (fun h => ?_) | refine Bf.NB (fun h => ?_) (fun h => ?_) | refine Bf.D (fun h => ?_) (fun h => ?_) | refine Bf.not ?_ | refine Fin_.mk rfl ?_) | refine Bf.t rfl ?_ | refine Bf.f rfl ?_)
  all_goals first | (show [B false] = [B (decide (a = b))]; refine congrArg (fun z => [B z]) (decide_eq_false fun e => ?_).symm; subst e; contradiction) | (show [B true] = [B (decide (a = b))]; refine congrArg (fun z => [B z]) (decide_eq_true ?_).symm; cases a; cases b; simp_all)
theorem eqLargeS_ok (a b : List DLarge) (hs : smlDLargeS a) : CallsA Tryz.prog 37 false [.val none (rDLargeS .imm a), .val none (rDLargeS .imm b)] .one [B (decide (a = b))] := by
  refine fnOk (n := 27) (mo := []) (tb := [(6, 10, [17, 18, 19, 20, 21, 22, 23, 24, 25, 26])]) Tryz.func37 (by kernel_rfl) rfl (by kernel_rfl) (by rfl) (.inr ⟨trivial, trivial⟩) ?_
  have hl : a.length ≤ 1048576 := hs.1
  repeat' ((conv => whnf); first | with_reducible (first | refine Ln.mk (List.length_map ..) ?_ | refine Wr.mk (wrapI (by omega) (by omega)) ?_ | refine Bf.N (fun h => ?_) (fun h => ?_) | refine Bf.not ?_ | refine Fin_.mk rfl ?_) | refine Bf.t rfl ?_ | refine Bf.f rfl ?_)
  · refine congrArg (fun z => [B z]) (decide_eq_false fun e => ?_).symm
    subst e
    omega
  have hlab : a.length = b.length := by omega
  (conv => whnf)
  refine Lp.mk (ι := Nat) (fun i => [(0, .hold .one (rDLargeS .imm a)), (1, .hold .one (rDLargeS .imm b)), (5, .hold .one [I (i : Nat)])]) (fun i => i ≤ a.length ∧ ∀ j, j < i → a[j]? = b[j]?) (fun i => a.length - i) 0 ?_ ⟨Nat.zero_le _, fun j hj => by omega⟩ fun i hi => ?_
  · repeat' (first | exact trivial | rfl | refine And.intro ?_ ?_)
  · obtain ⟨hi, hall⟩ := hi
    by_cases hlt : i < a.length
    · obtain ⟨x, hx⟩ : ∃ x, a[i]? = some x := ⟨_, List.getElem?_eq_getElem hlt⟩
      obtain ⟨y, hy⟩ : ∃ y, b[i]? = some y := ⟨_, List.getElem?_eq_getElem (by omega)⟩
      repeat' ((conv => whnf); first | with_reducible (first | refine Ln.mk (List.length_map ..) ?_ | refine Wr.mk (wrapI (by omega) (by omega)) ?_ | refine Ix.nat (get_map hx) ?_ | refine Ix.nat (get_map hy) ?_ | refine Bf.D (fun h => ?_) (fun h => absurd h (by omega)) | refine Bf.N (fun h => ?_) (fun h => ?_) | refine Bf.NB (fun h => ?_) (fun h => ?_) | refine Bf.D (fun h => ?_) (fun h => ?_) | refine Bf.not ?_ | refine Fin_.mk rfl ?_) | refine Bf.t rfl ?_ | refine Bf.f rfl ?_ | refine Cl.mk (eqLarge_ok x y trivial) ?_)
      all_goals first
        | (show [B false] = [B (decide (a = b))]
           refine congrArg (fun z => [B z]) (decide_eq_false fun e => ?_).symm
           subst e
           simp_all)
        | ((conv => whnf)
           refine Nx.mk (i + 1) ⟨by omega, fun j hj => ?_⟩ (by omega) ?_
           · rcases Nat.lt_or_ge j i with h1 | h1
             · exact hall j h1
             · obtain rfl : j = i := by omega
               rw [hx, hy]
               simp_all
           · repeat' (first | exact trivial | rfl | refine And.intro ?_ ?_))
    · repeat' ((conv => whnf); first | with_reducible (first | refine Ln.mk (List.length_map ..) ?_ | refine Wr.mk (wrapI (by omega) (by omega)) ?_ | refine Bf.D (fun h => absurd h (by omega)) (fun h => ?_) | refine Bf.not ?_ | refine Fin_.mk rfl ?_) | refine Bf.t rfl ?_ | refine Bf.f rfl ?_)
      refine congrArg (fun z => [B z]) (decide_eq_true ?_).symm
      refine List.ext_getElem? fun j => ?_
      rcases Nat.lt_or_ge j i with h1 | h1
      · exact hall j h1
      · rw [List.getElem?_eq_none (by omega), List.getElem?_eq_none (by omega)]
theorem eqObj_ok (a b : DObj) (hs : DObj.sml a) : CallsA Tryz.prog 76 false [.val (some 4) (DObj.enc .imm a), .val (some 4) (DObj.enc .imm b)] .one [B (decide (a = b))] := by
  refine fnOk (n := 25) (mo := []) (tb := []) Tryz.func76 (by kernel_rfl) rfl (by kernel_rfl) (by rfl) (.inr ⟨trivial, trivial⟩) ?_
  repeat' ((conv => whnf); first | with_reducible (first | refine Ln.mk (List.length_map ..) ?_ | refine Wr.mk (wrapI (by omega) (by omega)) ?_ | refine Bf.N (fun h => ?_) (fun h => ?_) | refine Bf.NB (fun h => ?_) (fun h => ?_) | refine Bf.D (fun h => ?_) (fun h => ?_) | refine Bf.not ?_ | refine Fin_.mk rfl ?_) | refine Bf.t rfl ?_ | refine Bf.f rfl ?_)
  all_goals first | (show [B false] = [B (decide (a = b))]; refine congrArg (fun z => [B z]) (decide_eq_false fun e => ?_).symm; subst e; contradiction) | (show [B true] = [B (decide (a = b))]; refine congrArg (fun z => [B z]) (decide_eq_true ?_).symm; cases a; cases b; simp_all)
theorem eqObjS_ok (a b : List DObj) (hs : smlDObjS a) : CallsA Tryz.prog 38 false [.val none (rDObjS .imm a), .val none (rDObjS .imm b)] .one [B (decide (a = b))] := by
  refine fnOk (n := 27) (mo := []) (tb := [(6, 10, [17, 18, 19, 20, 21, 22, 23, 24, 25, 26])]) Tryz.func38 (by kernel_rfl) rfl (by kernel_rfl) (by rfl) (.inr ⟨trivial, trivial⟩) ?_
  have hl : a.length ≤ 1048576 := hs.1
  repeat' ((conv => whnf); first | with_reducible (first | refine Ln.mk (List.length_map ..) ?_ | refine Wr.mk (wrapI (by omega) (by omega)) ?_ | refine Bf.N (fun h => ?_) (fun h => ?_) | refine Bf.not ?_ | refine Fin_.mk rfl ?_) | refine Bf.t rfl ?_ | refine Bf.f rfl ?_)
  · refine congrArg (fun z => [B z]) (decide_eq_false fun e => ?_).symm
    subst e
    omega
  have hlab : a.length = b.length := by omega
  (conv => whnf)
  refine Lp.mk (ι := Nat) (fun i => [(0, .hold .one (rDObjS .imm a)), (1, .hold .one (rDObjS .imm b)), (5, .hold .one [I (i : Nat)])]) (fun i => i ≤ a.length ∧ ∀ j, j < i → a[j]? = b[j]?) (fun i => a.length - i) 0 ?_ ⟨Nat.zero_le _, fun j hj => by omega⟩ fun i hi => ?_
  · repeat' (first | exact trivial | rfl | refine And.intro ?_ ?_)
  · obtain ⟨hi, hall⟩ := hi
    by_cases hlt : i < a.length
    · obtain ⟨x, hx⟩ : ∃ x, a[i]? = some x := ⟨_, List.getElem?_eq_getElem hlt⟩
      obtain ⟨y, hy⟩ : ∃ y, b[i]? = some y := ⟨_, List.getElem?_eq_getElem (by omega)⟩
      repeat' ((conv => whnf); first | with_reducible (first | refine Ln.mk (List.length_map ..) ?_ | refine Wr.mk (wrapI (by omega) (by omega)) ?_ | refine Ix.nat (get_map hx) ?_ | refine Ix.nat (get_map hy) ?_ | refine Bf.D (fun h => ?_) (fun h => absurd h (by omega)) | refine Bf.N (fun h => ?_) (fun h => ?_) | refine Bf.NB (fun h => ?_) (fun h => ?_) | refine Bf.D (fun h => ?_) (fun h => ?_) | refine Bf.not ?_ | refine Fin_.mk rfl ?_) | refine Bf.t rfl ?_ | refine Bf.f rfl ?_ | refine Cl.mk (eqObj_ok x y trivial) ?_)
      all_goals first
        | (show [B false] = [B (decide (a = b))]
           refine congrArg (fun z => [B z]) (decide_eq_false fun e => ?_).symm
           subst e
           simp_all)
        | ((conv => whnf)
           refine Nx.mk (i + 1) ⟨by omega, fun j hj => ?_⟩ (by omega) ?_
           · rcases Nat.lt_or_ge j i with h1 | h1
             · exact hall j h1
             · obtain rfl : j = i := by omega
               rw [hx, hy]
               simp_all
           · repeat' (first | exact trivial | rfl | refine And.intro ?_ ?_))
    · repeat' ((conv => whnf); first | with_reducible (first | refine Ln.mk (List.length_map ..) ?_ | refine Wr.mk (wrapI (by omega) (by omega)) ?_ | refine Bf.D (fun h => absurd h (by omega)) (fun h => ?_) | refine Bf.not ?_ | refine Fin_.mk rfl ?_) | refine Bf.t rfl ?_ | refine Bf.f rfl ?_)
      refine congrArg (fun z => [B z]) (decide_eq_true ?_).symm
      refine List.ext_getElem? fun j => ?_
      rcases Nat.lt_or_ge j i with h1 | h1
      · exact hall j h1
      · rw [List.getElem?_eq_none (by omega), List.getElem?_eq_none (by omega)]
theorem eqCache_ok (a b : DCache) (hs : DCache.sml a) : CallsA Tryz.prog 77 false [.val (some 1) (DCache.enc .imm a), .val (some 1) (DCache.enc .imm b)] .one [B (decide (a = b))] := by
  have h0 := hs
  refine fnOk (n := 11) (mo := []) (tb := []) Tryz.func77 (by kernel_rfl) rfl (by kernel_rfl) (by rfl) (.inr ⟨trivial, trivial⟩) ?_
  repeat' ((conv => whnf); first | with_reducible (first | refine Ln.mk (List.length_map ..) ?_ | refine Wr.mk (wrapI (by omega) (by omega)) ?_ | refine Bf.N (fun h => ?_) (fun h => ?_) | refine Bf.NB (fun h => ?_) (fun h => ?_) | refine Bf.D (fun h => ?_) (fun h => ?_) | refine Bf.not ?_ | refine Fin_.mk rfl ?_) | refine Bf.t rfl ?_ | refine Bf.f rfl ?_ | refine Cl.mk (eqIntSS_ok a.Lists b.Lists h0) ?_)
  all_goals first | (show [B false] = [B (decide (a = b))]; refine congrArg (fun z => [B z]) (decide_eq_false fun e => ?_).symm; subst e; contradiction) | (show [B true] = [B (decide (a = b))]; refine congrArg (fun z => [B z]) (decide_eq_true ?_).symm; cases a; cases b; simp_all)
theorem eqCacheS_ok (a b : List DCache) (hs : smlDCacheS a) : CallsA Tryz.prog 39 false [.val none (rDCacheS .imm a), .val none (rDCacheS .imm b)] .one [B (decide (a = b))] := by
  refine fnOk (n := 27) (mo := []) (tb := [(6, 10, [17, 18, 19, 20, 21, 22, 23, 24, 25, 26])]) Tryz.func39 (by kernel_rfl) rfl (by kernel_rfl) (by rfl) (.inr ⟨trivial, trivial⟩) ?_
  have hl : a.length ≤ 1048576 := hs.1
  repeat' ((conv => whnf); first | with_reducible (first | refine Ln.mk (List.length_map ..) ?_ | refine Wr.mk (wrapI (by omega) (by omega)) ?_ | refine Bf.N (fun h => ?_) (fun h => ?_) | refine Bf.not ?_ | refine Fin_.mk rfl ?_) | refine Bf.t rfl ?_ | refine Bf.f rfl ?_)
  · refine congrArg (fun z => [B z]) (decide_eq_false fun e => ?_).symm
    subst e
    omega
  have hlab : a.length = b.length := by omega
  (conv => whnf)
  refine Lp.mk (ι := Nat) (fun i => [(0, .hold .one (rDCacheS .imm a)), (1, .hold .one (rDCacheS .imm b)), (5, .hold .one [I (i : Nat)])]) (fun i => i ≤ a.length ∧ ∀ j, j < i → a[j]? = b[j]?) (fun i => a.length - i) 0 ?_ ⟨Nat.zero_le _, fun j hj => by omega⟩ fun i hi => ?_
  · repeat' (first | exact trivial | rfl | refine And.intro ?_ ?_)
  · obtain ⟨hi, hall⟩ := hi
    by_cases hlt : i < a.length
    · obtain ⟨x, hx⟩ : ∃ x, a[i]? = some x := ⟨_, List.getElem?_eq_getElem hlt⟩
      obtain ⟨y, hy⟩ : ∃ y, b[i]? = some y := ⟨_, List.getElem?_eq_getElem (by omega)⟩
      repeat' ((conv => whnf); first | with_reducible (first | refine Ln.mk (List.length_map ..) ?_ | refine Wr.mk (wrapI (by omega) (by omega)) ?_ | refine Ix.nat (get_map hx) ?_ | refine Ix.nat (get_map hy) ?_ | refine Bf.D (fun h => ?_) (fun h => absurd h (by omega)) | refine Bf.N (fun h => ?_) (fun h => ?_) | refine Bf.NB (fun h => ?_) (fun h => ?_) | refine Bf.D (fun h => ?_) (fun h => ?_) | refine Bf.not ?_ | refine Fin_.mk rfl ?_) | refine Bf.t rfl ?_ | refine Bf.f rfl ?_ | refine Cl.mk (eqCache_ok x y (hs.2 x (List.mem_of_getElem? hx))) ?_)
      all_goals first
        | (show [B false] = [B (decide (a = b))]
           refine congrArg (fun z => [B z]) (decide_eq_false fun e => ?_).symm
           subst e
           simp_all)
        | ((conv => whnf)
           refine Nx.mk (i + 1) ⟨by omega, fun j hj => ?_⟩ (by omega) ?_
           · rcases Nat.lt_or_ge j i with h1 | h1
             · exact hall j h1
             · obtain rfl : j = i := by omega
               rw [hx, hy]
               simp_all
           · repeat' (first | exact trivial | rfl | refine And.intro ?_ ?_))
    · repeat' ((conv => whnf); first | with_reducible (first | refine Ln.mk (List.length_map ..) ?_ | refine Wr.mk (wrapI (by omega) (by omega)) ?_ | refine Bf.D (fun h => absurd h (by omega)) (fun h => ?_) | refine Bf.not ?_ | refine Fin_.mk rfl ?_) | refine Bf.t rfl ?_ | refine Bf.f rfl ?_)
      refine congrArg (fun z => [B z]) (decide_eq_true ?_).symm
      refine List.ext_getElem? fun j => ?_
      rcases Nat.lt_or_ge j i with h1 | h1
      · exact hall j h1
      · rw [List.getElem?_eq_none (by omega), List.getElem?_eq_none (by omega)]
theorem eqPost_ok (a b : DPost) (hs : DPost.sml a) : CallsA Tryz.prog 116 false [.val (some 2) (DPost.enc .imm a), .val (some 2) (DPost.enc .imm b)] .one [B (decide (a = b))] := by
  refine fnOk (n := 15) (mo := []) (tb := []) Tryz.func116 (by kernel_rfl) rfl (by kernel_rfl) (by rfl) (.inr ⟨trivial, trivial⟩) ?_
  repeat' ((conv => whnf); first | with_reducible (first | refine Ln.mk (List.length_map ..) ?_ | refine Wr.mk (wrapI (by omega) (by omega)) ?_ | refine Bf.N (fun h => ?_) (fun h => ?_) | refine Bf.NB (fun h => ?_) (fun h => ?_) | refine Bf.D (fun h => ?_) (fun h => ?_) | refine Bf.not ?_ | refine Fin_.mk rfl ?_) | refine Bf.t rfl ?_ | refine Bf.f rfl ?_)
  all_goals first | (show [B false] = [B (decide (a = b))]; refine congrArg (fun z => [B z]) (decide_eq_false fun e => ?_).symm; subst e; contradiction) | (show [B true] = [B (decide (a = b))]; refine congrArg (fun z => [B z]) (decide_eq_true ?_).symm; cases a; cases b; simp_all)
theorem eqPostS_ok (a b : List DPost) (hs : smlDPostS a) : CallsA Tryz.prog 100 false [.val none (rDPostS .imm a), .val none (rDPostS .imm b)] .one [B (decide (a = b))] := by
  refine fnOk (n := 27) (mo := []) (tb := [(6, 10, [17, 18, 19, 20, 21, 22, 23, 24, 25, 26])]) Tryz.func100 (by kernel_rfl) rfl (by kernel_rfl) (by rfl) (.inr ⟨trivial, trivial⟩) ?_
  have hl : a.length ≤ 1048576 := hs.1
  repeat' ((conv => whnf); first | with_reducible (first | refine Ln.mk (List.length_map ..) ?_ | refine Wr.mk (wrapI (by omega) (by omega)) ?_ | refine Bf.N (fun h => ?_) (fun h => ?_) | refine Bf.not ?_ | refine Fin_.mk rfl ?_) | refine Bf.t rfl ?_ | refine Bf.f rfl ?_)
  · refine congrArg (fun z => [B z]) (decide_eq_false fun e => ?_).symm
    subst e
    omega
  have hlab : a.length = b.length := by omega
  (conv => whnf)
  refine Lp.mk (ι := Nat) (fun i => [(0, .hold .one (rDPostS .imm a)), (1, .hold .one (rDPostS .imm b)), (5, .hold .one [I (i : Nat)])]) (fun i => i ≤ a.length ∧ ∀ j, j < i → a[j]? = b[j]?) (fun i => a.length - i) 0 ?_ ⟨Nat.zero_le _, fun j hj => by omega⟩ fun i hi => ?_
  · repeat' (first | exact trivial | rfl | refine And.intro ?_ ?_)
  · obtain ⟨hi, hall⟩ := hi
    by_cases hlt : i < a.length
    · obtain ⟨x, hx⟩ : ∃ x, a[i]? = some x := ⟨_, List.getElem?_eq_getElem hlt⟩
      obtain ⟨y, hy⟩ : ∃ y, b[i]? = some y := ⟨_, List.getElem?_eq_getElem (by omega)⟩
      repeat' ((conv => whnf); first | with_reducible (first | refine Ln.mk (List.length_map ..) ?_ | refine Wr.mk (wrapI (by omega) (by omega)) ?_ | refine Ix.nat (get_map hx) ?_ | refine Ix.nat (get_map hy) ?_ | refine Bf.D (fun h => ?_) (fun h => absurd h (by omega)) | refine Bf.N (fun h => ?_) (fun h => ?_) | refine Bf.NB (fun h => ?_) (fun h => ?_) | refine Bf.D (fun h => ?_) (fun h => ?_) | refine Bf.not ?_ | refine Fin_.mk rfl ?_) | refine Bf.t rfl ?_ | refine Bf.f rfl ?_ | refine Cl.mk (eqPost_ok x y trivial) ?_)
      all_goals first
        | (show [B false] = [B (decide (a = b))]
           refine congrArg (fun z => [B z]) (decide_eq_false fun e => ?_).symm
           subst e
           simp_all)
        | ((conv => whnf)
           refine Nx.mk (i + 1) ⟨by omega, fun j hj => ?_⟩ (by omega) ?_
           · rcases Nat.lt_or_ge j i with h1 | h1
             · exact hall j h1
             · obtain rfl : j = i := by omega
               rw [hx, hy]
               simp_all
           · repeat' (first | exact trivial | rfl | refine And.intro ?_ ?_))
    · repeat' ((conv => whnf); first | with_reducible (first | refine Ln.mk (List.length_map ..) ?_ | refine Wr.mk (wrapI (by omega) (by omega)) ?_ | refine Bf.D (fun h => absurd h (by omega)) (fun h => ?_) | refine Bf.not ?_ | refine Fin_.mk rfl ?_) | refine Bf.t rfl ?_ | refine Bf.f rfl ?_)
      refine congrArg (fun z => [B z]) (decide_eq_true ?_).symm
      refine List.ext_getElem? fun j => ?_
      rcases Nat.lt_or_ge j i with h1 | h1
      · exact hall j h1
      · rw [List.getElem?_eq_none (by omega), List.getElem?_eq_none (by omega)]
theorem eqPostSS_ok (a b : List (List DPost)) (hs : smlDPostSS a) : CallsA Tryz.prog 78 false [.val none (rDPostSS .imm a), .val none (rDPostSS .imm b)] .one [B (decide (a = b))] := by
  refine fnOk (n := 27) (mo := []) (tb := [(6, 10, [17, 18, 19, 20, 21, 22, 23, 24, 25, 26])]) Tryz.func78 (by kernel_rfl) rfl (by kernel_rfl) (by rfl) (.inr ⟨trivial, trivial⟩) ?_
  have hl : a.length ≤ 1048576 := hs.1
  repeat' ((conv => whnf); first | with_reducible (first | refine Ln.mk (List.length_map ..) ?_ | refine Wr.mk (wrapI (by omega) (by omega)) ?_ | refine Bf.N (fun h => ?_) (fun h => ?_) | refine Bf.not ?_ | refine Fin_.mk rfl ?_) | refine Bf.t rfl ?_ | refine Bf.f rfl ?_)
  · refine congrArg (fun z => [B z]) (decide_eq_false fun e => ?_).symm
    subst e
    omega
  have hlab : a.length = b.length := by omega
  (conv => whnf)
  refine Lp.mk (ι := Nat) (fun i => [(0, .hold .one (rDPostSS .imm a)), (1, .hold .one (rDPostSS .imm b)), (5, .hold .one [I (i : Nat)])]) (fun i => i ≤ a.length ∧ ∀ j, j < i → a[j]? = b[j]?) (fun i => a.length - i) 0 ?_ ⟨Nat.zero_le _, fun j hj => by omega⟩ fun i hi => ?_
  · repeat' (first | exact trivial | rfl | refine And.intro ?_ ?_)
  · obtain ⟨hi, hall⟩ := hi
    by_cases hlt : i < a.length
    · obtain ⟨x, hx⟩ : ∃ x, a[i]? = some x := ⟨_, List.getElem?_eq_getElem hlt⟩
      obtain ⟨y, hy⟩ : ∃ y, b[i]? = some y := ⟨_, List.getElem?_eq_getElem (by omega)⟩
      repeat' ((conv => whnf); first | with_reducible (first | refine Ln.mk (List.length_map ..) ?_ | refine Wr.mk (wrapI (by omega) (by omega)) ?_ | refine Ix.nat (get_map hx) ?_ | refine Ix.nat (get_map hy) ?_ | refine Bf.D (fun h => ?_) (fun h => absurd h (by omega)) | refine Bf.N (fun h => ?_) (fun h => ?_) | refine Bf.NB (fun h => ?_) (fun h => ?_) | refine Bf.D (fun h => ?_) (fun h => ?_) | refine Bf.not ?_ | refine Fin_.mk rfl ?_) | refine Bf.t rfl ?_ | refine Bf.f rfl ?_ | refine Cl.mk (eqPostS_ok x y (hs.2 x (List.mem_of_getElem? hx))) ?_)
      all_goals first
        | (show [B false] = [B (decide (a = b))]
           refine congrArg (fun z => [B z]) (decide_eq_false fun e => ?_).symm
           subst e
           simp_all)
        | ((conv => whnf)
           refine Nx.mk (i + 1) ⟨by omega, fun j hj => ?_⟩ (by omega) ?_
           · rcases Nat.lt_or_ge j i with h1 | h1
             · exact hall j h1
             · obtain rfl : j = i := by omega
               rw [hx, hy]
               simp_all
           · repeat' (first | exact trivial | rfl | refine And.intro ?_ ?_))
    · repeat' ((conv => whnf); first | with_reducible (first | refine Ln.mk (List.length_map ..) ?_ | refine Wr.mk (wrapI (by omega) (by omega)) ?_ | refine Bf.D (fun h => absurd h (by omega)) (fun h => ?_) | refine Bf.not ?_ | refine Fin_.mk rfl ?_) | refine Bf.t rfl ?_ | refine Bf.f rfl ?_)
      refine congrArg (fun z => [B z]) (decide_eq_true ?_).symm
      refine List.ext_getElem? fun j => ?_
      rcases Nat.lt_or_ge j i with h1 | h1
      · exact hall j h1
      · rw [List.getElem?_eq_none (by omega), List.getElem?_eq_none (by omega)]
theorem eqMail_ok (a b : DMail) (hs : DMail.sml a) : CallsA Tryz.prog 40 false [.val (some 2) (DMail.enc .imm a), .val (some 2) (DMail.enc .imm b)] .one [B (decide (a = b))] := by
  obtain ⟨h0, h1⟩ := hs
  refine fnOk (n := 17) (mo := []) (tb := []) Tryz.func40 (by kernel_rfl) rfl (by kernel_rfl) (by rfl) (.inr ⟨trivial, trivial⟩) ?_
  repeat' ((conv => whnf); first | with_reducible (first | refine Ln.mk (List.length_map ..) ?_ | refine Wr.mk (wrapI (by omega) (by omega)) ?_ | refine Bf.N (fun h => ?_) (fun h => ?_) | refine Bf.NB (fun h => ?_) (fun h => ?_) | refine Bf.D (fun h => ?_) (fun h => ?_) | refine Bf.not ?_ | refine Fin_.mk rfl ?_) | refine Bf.t rfl ?_ | refine Bf.f rfl ?_ | refine Cl.mk (eqPostSS_ok a.Buffers b.Buffers h0) ?_ | refine Cl.mk (eqIntSS_ok a.Inbox b.Inbox h1) ?_)
  all_goals first | (show [B false] = [B (decide (a = b))]; refine congrArg (fun z => [B z]) (decide_eq_false fun e => ?_).symm; subst e; contradiction) | (show [B true] = [B (decide (a = b))]; refine congrArg (fun z => [B z]) (decide_eq_true ?_).symm; cases a; cases b; simp_all)
theorem eqStale_ok (a b : DStale) (hs : DStale.sml a) : CallsA Tryz.prog 101 false [.val (some 3) (DStale.enc .imm a), .val (some 3) (DStale.enc .imm b)] .one [B (decide (a = b))] := by
  refine fnOk (n := 20) (mo := []) (tb := []) Tryz.func101 (by kernel_rfl) rfl (by kernel_rfl) (by rfl) (.inr ⟨trivial, trivial⟩) ?_
  repeat' ((conv => whnf); first | with_reducible (first | refine Ln.mk (List.length_map ..) ?_ | refine Wr.mk (wrapI (by omega) (by omega)) ?_ | refine Bf.N (fun h => ?_) (fun h => ?_) | refine Bf.NB (fun h => ?_) (fun h => ?_) | refine Bf.D (fun h => ?_) (fun h => ?_) | refine Bf.not ?_ | refine Fin_.mk rfl ?_) | refine Bf.t rfl ?_ | refine Bf.f rfl ?_)
  all_goals first | (show [B false] = [B (decide (a = b))]; refine congrArg (fun z => [B z]) (decide_eq_false fun e => ?_).symm; subst e; contradiction) | (show [B true] = [B (decide (a = b))]; refine congrArg (fun z => [B z]) (decide_eq_true ?_).symm; cases a; cases b; simp_all)
theorem eqStaleS_ok (a b : List DStale) (hs : smlDStaleS a) : CallsA Tryz.prog 80 false [.val none (rDStaleS .imm a), .val none (rDStaleS .imm b)] .one [B (decide (a = b))] := by
  refine fnOk (n := 27) (mo := []) (tb := [(6, 10, [17, 18, 19, 20, 21, 22, 23, 24, 25, 26])]) Tryz.func80 (by kernel_rfl) rfl (by kernel_rfl) (by rfl) (.inr ⟨trivial, trivial⟩) ?_
  have hl : a.length ≤ 1048576 := hs.1
  repeat' ((conv => whnf); first | with_reducible (first | refine Ln.mk (List.length_map ..) ?_ | refine Wr.mk (wrapI (by omega) (by omega)) ?_ | refine Bf.N (fun h => ?_) (fun h => ?_) | refine Bf.not ?_ | refine Fin_.mk rfl ?_) | refine Bf.t rfl ?_ | refine Bf.f rfl ?_)
  · refine congrArg (fun z => [B z]) (decide_eq_false fun e => ?_).symm
    subst e
    omega
  have hlab : a.length = b.length := by omega
  (conv => whnf)
  refine Lp.mk (ι := Nat) (fun i => [(0, .hold .one (rDStaleS .imm a)), (1, .hold .one (rDStaleS .imm b)), (5, .hold .one [I (i : Nat)])]) (fun i => i ≤ a.length ∧ ∀ j, j < i → a[j]? = b[j]?) (fun i => a.length - i) 0 ?_ ⟨Nat.zero_le _, fun j hj => by omega⟩ fun i hi => ?_
  · repeat' (first | exact trivial | rfl | refine And.intro ?_ ?_)
  · obtain ⟨hi, hall⟩ := hi
    by_cases hlt : i < a.length
    · obtain ⟨x, hx⟩ : ∃ x, a[i]? = some x := ⟨_, List.getElem?_eq_getElem hlt⟩
      obtain ⟨y, hy⟩ : ∃ y, b[i]? = some y := ⟨_, List.getElem?_eq_getElem (by omega)⟩
      repeat' ((conv => whnf); first | with_reducible (first | refine Ln.mk (List.length_map ..) ?_ | refine Wr.mk (wrapI (by omega) (by omega)) ?_ | refine Ix.nat (get_map hx) ?_ | refine Ix.nat (get_map hy) ?_ | refine Bf.D (fun h => ?_) (fun h => absurd h (by omega)) | refine Bf.N (fun h => ?_) (fun h => ?_) | refine Bf.NB (fun h => ?_) (fun h => ?_) | refine Bf.D (fun h => ?_) (fun h => ?_) | refine Bf.not ?_ | refine Fin_.mk rfl ?_) | refine Bf.t rfl ?_ | refine Bf.f rfl ?_ | refine Cl.mk (eqStale_ok x y trivial) ?_)
      all_goals first
        | (show [B false] = [B (decide (a = b))]
           refine congrArg (fun z => [B z]) (decide_eq_false fun e => ?_).symm
           subst e
           simp_all)
        | ((conv => whnf)
           refine Nx.mk (i + 1) ⟨by omega, fun j hj => ?_⟩ (by omega) ?_
           · rcases Nat.lt_or_ge j i with h1 | h1
             · exact hall j h1
             · obtain rfl : j = i := by omega
               rw [hx, hy]
               simp_all
           · repeat' (first | exact trivial | rfl | refine And.intro ?_ ?_))
    · repeat' ((conv => whnf); first | with_reducible (first | refine Ln.mk (List.length_map ..) ?_ | refine Wr.mk (wrapI (by omega) (by omega)) ?_ | refine Bf.D (fun h => absurd h (by omega)) (fun h => ?_) | refine Bf.not ?_ | refine Fin_.mk rfl ?_) | refine Bf.t rfl ?_ | refine Bf.f rfl ?_)
      refine congrArg (fun z => [B z]) (decide_eq_true ?_).symm
      refine List.ext_getElem? fun j => ?_
      rcases Nat.lt_or_ge j i with h1 | h1
      · exact hall j h1
      · rw [List.getElem?_eq_none (by omega), List.getElem?_eq_none (by omega)]
theorem eqQuar_ok (a b : DQuar) (hs : DQuar.sml a) : CallsA Tryz.prog 41 false [.val (some 2) (DQuar.enc .imm a), .val (some 2) (DQuar.enc .imm b)] .one [B (decide (a = b))] := by
  have h0 := hs
  refine fnOk (n := 16) (mo := []) (tb := []) Tryz.func41 (by kernel_rfl) rfl (by kernel_rfl) (by rfl) (.inr ⟨trivial, trivial⟩) ?_
  repeat' ((conv => whnf); first | with_reducible (first | refine Ln.mk (List.length_map ..) ?_ | refine Wr.mk (wrapI (by omega) (by omega)) ?_ | refine Bf.N (fun h => ?_) (fun h => ?_) | refine Bf.NB (fun h => ?_) (fun h => ?_) | refine Bf.D (fun h => ?_) (fun h => ?_) | refine Bf.not ?_ | refine Fin_.mk rfl ?_) | refine Bf.t rfl ?_ | refine Bf.f rfl ?_ | refine Cl.mk (eqStaleS_ok a.Lst b.Lst h0) ?_)
  all_goals first | (show [B false] = [B (decide (a = b))]; refine congrArg (fun z => [B z]) (decide_eq_false fun e => ?_).symm; subst e; contradiction) | (show [B true] = [B (decide (a = b))]; refine congrArg (fun z => [B z]) (decide_eq_true ?_).symm; cases a; cases b; simp_all)
theorem eqPlan_ok (a b : DPlan) (hs : DPlan.sml a) : CallsA Tryz.prog 81 false [.val (some 3) (DPlan.enc .imm a), .val (some 3) (DPlan.enc .imm b)] .one [B (decide (a = b))] := by
  have h0 := hs
  refine fnOk (n := 21) (mo := []) (tb := []) Tryz.func81 (by kernel_rfl) rfl (by kernel_rfl) (by rfl) (.inr ⟨trivial, trivial⟩) ?_
  repeat' ((conv => whnf); first | with_reducible (first | refine Ln.mk (List.length_map ..) ?_ | refine Wr.mk (wrapI (by omega) (by omega)) ?_ | refine Bf.N (fun h => ?_) (fun h => ?_) | refine Bf.NB (fun h => ?_) (fun h => ?_) | refine Bf.D (fun h => ?_) (fun h => ?_) | refine Bf.not ?_ | refine Fin_.mk rfl ?_) | refine Bf.t rfl ?_ | refine Bf.f rfl ?_ | refine Cl.mk (eqIntS_ok a.Cells b.Cells h0) ?_)
  all_goals first | (show [B false] = [B (decide (a = b))]; refine congrArg (fun z => [B z]) (decide_eq_false fun e => ?_).symm; subst e; contradiction) | (show [B true] = [B (decide (a = b))]; refine congrArg (fun z => [B z]) (decide_eq_true ?_).symm; cases a; cases b; simp_all)
theorem eqJob_ok (a b : DJob) (hs : DJob.sml a) : CallsA Tryz.prog 42 false [.val (some 5) (DJob.enc .imm a), .val (some 5) (DJob.enc .imm b)] .one [B (decide (a = b))] := by
  have h0 := hs
  refine fnOk (n := 21) (mo := []) (tb := []) Tryz.func42 (by kernel_rfl) rfl (by kernel_rfl) (by rfl) (.inr ⟨trivial, trivial⟩) ?_
  repeat' ((conv => whnf); first | with_reducible (first | refine Ln.mk (List.length_map ..) ?_ | refine Wr.mk (wrapI (by omega) (by omega)) ?_ | refine Bf.N (fun h => ?_) (fun h => ?_) | refine Bf.NB (fun h => ?_) (fun h => ?_) | refine Bf.D (fun h => ?_) (fun h => ?_) | refine Bf.not ?_ | refine Fin_.mk rfl ?_) | refine Bf.t rfl ?_ | refine Bf.f rfl ?_ | refine Cl.mk (eqPlan_ok a.Plan b.Plan h0) ?_)
  all_goals first | (show [B false] = [B (decide (a = b))]; refine congrArg (fun z => [B z]) (decide_eq_false fun e => ?_).symm; subst e; contradiction) | (show [B true] = [B (decide (a = b))]; refine congrArg (fun z => [B z]) (decide_eq_true ?_).symm; cases a; cases b; simp_all)
theorem eqHeap_ok (a b : DHeap) (hs : DHeap.sml a) : CallsA Tryz.prog 10 false [.val (some 24) (DHeap.enc .imm a), .val (some 24) (DHeap.enc .imm b)] .one [B (decide (a = b))] := by
  obtain ⟨h0, h1, h2, h3, h4, h5, h6, h7, h8⟩ := hs
  refine fnOk (n := 84) (mo := []) (tb := []) Tryz.func10 (by kernel_rfl) rfl (by kernel_rfl) (by rfl) (.inr ⟨trivial, trivial⟩) ?_
  repeat' ((conv => whnf); first | with_reducible (first | refine Ln.mk (List.length_map ..) ?_ | refine Wr.mk (wrapI (by omega) (by omega)) ?_ | refine Bf.N (fun h => ?_) (fun h => ?_) | refine Bf.NB (fun h => ?_) (fun h => ?_) | refine Bf.D (fun h => ?_) (fun h => ?_) | refine Bf.not ?_ | refine Fin_.mk rfl ?_) | refine Bf.t rfl ?_ | refine Bf.f rfl ?_ | refine Cl.mk (eqKernel_ok a.Kernel b.Kernel h0) ?_ | refine Cl.mk (eqRangeS_ok a.Free b.Free h1) ?_ | refine Cl.mk (eqSpanS_ok a.Spans b.Spans h2) ?_ | refine Cl.mk (eqLargeS_ok a.Larges b.Larges h3) ?_ | refine Cl.mk (eqObjS_ok a.Objs b.Objs h4) ?_ | refine Cl.mk (eqCacheS_ok a.Caches b.Caches h5) ?_ | refine Cl.mk (eqMail_ok a.Mail b.Mail h6) ?_ | refine Cl.mk (eqQuar_ok a.Quar b.Quar h7) ?_ | refine Cl.mk (eqJob_ok a.Job b.Job h8) ?_)
  all_goals first | (show [B false] = [B (decide (a = b))]; refine congrArg (fun z => [B z]) (decide_eq_false fun e => ?_).symm; subst e; contradiction) | (show [B true] = [B (decide (a = b))]; refine congrArg (fun z => [B z]) (decide_eq_true ?_).symm; cases a; cases b; simp_all)
end Go.Proofs.YthinjmmlpgjhnaaGreat.Ab
