/- Contracts of small functions on caches: classes, membership, CacheOk. No condition. -/
import Derived.Test.YthinjmmlpgjhnaaGreatDat
namespace Go.Proofs.YthinjmmlpgjhnaaGreat.Ab
open Go.RowKit
set_option maxRecDepth 20000
set_option maxHeartbeats 2000000
theorem l01In_ok (n lo hi : Int) : CallsA Tryz.prog 105 false [.val none [I n], .val none [I lo], .val none [I hi]] .one [B (decide (lo ≤ n ∧ n ≤ hi))] := by
  refine fnOk (n := 15) (mo := []) (tb := []) Tryz.func105 (by kernel_rfl) rfl (by kernel_rfl) (by rfl) (.inr ⟨trivial, trivial⟩) ?_
  repeat' ((conv => whnf); first | with_reducible (first | refine Ln.mk (List.length_map ..) ?_ | refine Wr.mk (wrapI (by omega) (by omega)) ?_ | refine Bf.D (fun hq => ?_) (fun hq => ?_) | refine Bf.not ?_ | refine Fin_.mk rfl ?_) | refine Bf.t rfl ?_ | refine Bf.f rfl ?_)
  all_goals exact congrArg (fun z => [B z]) (by simp; try omega)
theorem between_ok (n lo hi : Int) : CallsA Tryz.prog 108 false [.val none [I n], .val none [I lo], .val none [I hi]] .one [B (decide (lo ≤ n ∧ n ≤ hi))] := by
  refine fnOk (n := 15) (mo := []) (tb := []) Tryz.func108 (by kernel_rfl) rfl (by kernel_rfl) (by rfl) (.inr ⟨trivial, trivial⟩) ?_
  repeat' ((conv => whnf); first | with_reducible (first | refine Ln.mk (List.length_map ..) ?_ | refine Wr.mk (wrapI (by omega) (by omega)) ?_ | refine Bf.D (fun hq => ?_) (fun hq => ?_) | refine Bf.not ?_ | refine Fin_.mk rfl ?_) | refine Bf.t rfl ?_ | refine Bf.f rfl ?_)
  all_goals exact congrArg (fun z => [B z]) (by simp; try omega)
theorem classOk_ok (k : Int) : CallsA Tryz.prog 107 false [.val none [I k]] .one [B (decide (0 ≤ k ∧ k ≤ 3))] := by
  refine fnOk (n := 5) (mo := []) (tb := []) Tryz.func107 (by kernel_rfl) rfl (by kernel_rfl) (by rfl) (.inr ⟨trivial, trivial⟩) ?_
  repeat' ((conv => whnf); first | with_reducible (first | refine Ln.mk (List.length_map ..) ?_ | refine Wr.mk (wrapI (by omega) (by omega)) ?_ | refine Bf.not ?_ | refine Fin_.mk rfl ?_) | refine Bf.t rfl ?_ | refine Bf.f rfl ?_ | refine Cl.mk (between_ok k 0 3) ?_)
  rfl
/-- A class's size. -/
def csz (k : Int) : Int := if 0 ≤ k ∧ k ≤ 3 then 2 ^ k.toNat else 0
theorem ClassSize_impl (k : Int) : CallsA Tryz.prog 90 false [.val none [I k]] .one [I (csz k)] := by
  by_cases hk : 0 ≤ k ∧ k ≤ 3
  · obtain rfl | rfl | rfl | rfl : k = 0 ∨ k = 1 ∨ k = 2 ∨ k = 3 := by omega
    all_goals
      refine fnOk (n := 8) (mo := []) (tb := []) Tryz.func90 (by kernel_rfl) rfl (by kernel_rfl) (by rfl) (.inr ⟨trivial, trivial⟩) ?_
      repeat' ((conv => whnf); first | with_reducible (first | refine Ln.mk (List.length_map ..) ?_ | refine Wr.mk (wrapI (by omega) (by omega)) ?_ | refine Bf.D (fun hq => ?_) (fun hq => absurd hq (by omega)) | refine Bf.D (fun hq => absurd hq (by omega)) (fun hq => ?_) | refine Bf.D (fun hq => ?_) (fun hq => ?_) | refine Bf.not ?_ | refine Fin_.mk rfl ?_) | refine Bf.t rfl ?_ | refine Bf.f rfl ?_ | refine Cl.mk (classOk_ok _) ?_ | refine Cd.mk (by decide) ?_ | refine Wr.mk rfl ?_)
      exact congrArg (fun z => [I z]) (by decide)
  · refine fnOk (n := 8) (mo := []) (tb := []) Tryz.func90 (by kernel_rfl) rfl (by kernel_rfl) (by rfl) (.inr ⟨trivial, trivial⟩) ?_
    repeat' ((conv => whnf); first | with_reducible (first | refine Ln.mk (List.length_map ..) ?_ | refine Wr.mk (wrapI (by omega) (by omega)) ?_ | refine Bf.D (fun hq => ?_) (fun hq => absurd hq (by omega)) | refine Bf.D (fun hq => absurd hq (by omega)) (fun hq => ?_) | refine Bf.D (fun hq => ?_) (fun hq => ?_) | refine Bf.not ?_ | refine Fin_.mk rfl ?_) | refine Bf.t rfl ?_ | refine Bf.f rfl ?_ | refine Cl.mk (classOk_ok _) ?_)
    exact congrArg (fun z => [I z]) (by unfold csz; rw [if_neg hk])
theorem ClassSize_spec (k : Int) : CallsA Tryz.prog 88 false [.val none [I k]] .one [I (csz k)] := by
  by_cases hk : 0 ≤ k ∧ k ≤ 3
  · obtain rfl | rfl | rfl | rfl : k = 0 ∨ k = 1 ∨ k = 2 ∨ k = 3 := by omega
    all_goals
      refine fnOk (n := 9) (mo := []) (tb := []) Tryz.func88 (by kernel_rfl) rfl (by kernel_rfl) (by rfl) (.inr ⟨trivial, trivial⟩) ?_
      repeat' ((conv => whnf); first | with_reducible (first | refine Ln.mk (List.length_map ..) ?_ | refine Wr.mk (wrapI (by omega) (by omega)) ?_ | refine Bf.D (fun hq => ?_) (fun hq => absurd hq (by omega)) | refine Bf.D (fun hq => absurd hq (by omega)) (fun hq => ?_) | refine Bf.D (fun hq => ?_) (fun hq => ?_) | refine Bf.not ?_ | refine Fin_.mk rfl ?_) | refine Bf.t rfl ?_ | refine Bf.f rfl ?_ | refine Cl.mk (l01In_ok _ 0 3) ?_ | refine Cd.mk (by decide) ?_ | refine Wr.mk rfl ?_)
      exact congrArg (fun z => [I z]) (by decide)
  · refine fnOk (n := 9) (mo := []) (tb := []) Tryz.func88 (by kernel_rfl) rfl (by kernel_rfl) (by rfl) (.inr ⟨trivial, trivial⟩) ?_
    repeat' ((conv => whnf); first | with_reducible (first | refine Ln.mk (List.length_map ..) ?_ | refine Wr.mk (wrapI (by omega) (by omega)) ?_ | refine Bf.D (fun hq => ?_) (fun hq => absurd hq (by omega)) | refine Bf.D (fun hq => absurd hq (by omega)) (fun hq => ?_) | refine Bf.D (fun hq => ?_) (fun hq => ?_) | refine Bf.not ?_ | refine Fin_.mk rfl ?_) | refine Bf.t rfl ?_ | refine Bf.f rfl ?_ | refine Cl.mk (l01In_ok _ 0 3) ?_)
    exact congrArg (fun z => [I z]) (by unfold csz; rw [if_neg hk])
theorem l08Has_ok (xs : List Int) (a : Int) (hl : xs.length ≤ 9223372036854775807) : CallsA Tryz.prog 106 false [.val none (rIntS .imm xs), .val none [I a]] .one [B (decide (a ∈ xs))] := by
  refine fnOk (n := 18) (mo := []) (tb := []) Tryz.func106 (by kernel_rfl) rfl (by kernel_rfl) (by rfl) (.inr ⟨trivial, trivial⟩) ?_
  repeat' ((conv => whnf); first | with_reducible (first | refine Ln.mk (List.length_map ..) ?_ | refine Wr.mk (wrapI (by omega) (by omega)) ?_ | refine Bf.not ?_ | refine Fin_.mk rfl ?_) | refine Bf.t rfl ?_ | refine Bf.f rfl ?_)
  (conv => whnf)
  refine Lp.mk (ι := Nat) (fun i => [(0, .hold .one (rIntS .imm xs)), (1, .hold .one [I a]), (5, .hold .one [I (i : Nat)])]) (fun i => i ≤ xs.length ∧ a ∉ xs.take i) (fun i => xs.length - i) 0 ?_ ⟨Nat.zero_le _, by simp⟩ fun i hi => ?_
  · repeat' (first | exact trivial | rfl | refine And.intro ?_ ?_)
  · obtain ⟨hi, hn⟩ := hi
    by_cases hlt : i < xs.length
    · obtain ⟨y, hy⟩ : ∃ y, xs[i]? = some y := ⟨_, List.getElem?_eq_getElem hlt⟩
      repeat' ((conv => whnf); first | with_reducible (first | refine Ln.mk (List.length_map ..) ?_ | refine Wr.mk (wrapI (by omega) (by omega)) ?_ | refine Ix.nat (get_map hy) ?_ | refine Bf.D (fun hq => ?_) (fun hq => absurd hq (by omega)) | refine Bf.E (fun hq => ?_) (fun hq => ?_) | refine Bf.not ?_ | refine Fin_.mk rfl ?_) | refine Bf.t rfl ?_ | refine Bf.f rfl ?_)
      · exact congrArg (fun z => [B z]) (by symm; simp; rw [← ‹y = a›]; exact List.mem_of_getElem? hy)
      · (conv => whnf)
        refine Nx.mk (i + 1) ⟨by omega, ?_⟩ (by omega) ?_
        · rw [List.take_add_one, hy]
          simp only [Option.toList_some, List.mem_append, List.mem_singleton, not_or]
          exact ⟨hn, fun e => ‹y ≠ a› e.symm⟩
        · repeat' (first | exact trivial | rfl | refine And.intro ?_ ?_)
    · repeat' ((conv => whnf); first | with_reducible (first | refine Ln.mk (List.length_map ..) ?_ | refine Wr.mk (wrapI (by omega) (by omega)) ?_ | refine Bf.D (fun hq => absurd hq (by omega)) (fun hq => ?_) | refine Bf.not ?_ | refine Fin_.mk rfl ?_) | refine Bf.t rfl ?_ | refine Bf.f rfl ?_)
      rw [List.take_of_length_le (by omega)] at hn
      exact congrArg (fun z => [B z]) (by symm; simpa using hn)
end Go.Proofs.YthinjmmlpgjhnaaGreat.Ab
