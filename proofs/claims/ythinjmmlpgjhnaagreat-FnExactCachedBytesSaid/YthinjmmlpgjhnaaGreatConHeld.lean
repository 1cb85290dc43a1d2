/- Contracts of the laws' generic functions (held). Printed by gen_con.py. No condition. -/
import Derived.Test.YthinjmmlpgjhnaaGreatDat
namespace Go.Proofs.YthinjmmlpgjhnaaGreat.Ab
open Go.RowKit
set_option maxRecDepth 20000
set_option maxHeartbeats 2000000

theorem heldIntS_ok (x : List Int) (k : Int) (hs : smlIntS x) (h0 : 0 ≤ k) (h1 : k + (cntIntS x : Nat) ≤ 1099511627776) : CallsA Tryz.prog 13 false [.val none (rIntS .imm (markIntS x k)), .val none [I k]] .one [I (k + (cntIntS x : Nat))] := by
  have hl : x.length ≤ 1048576 := hs
  have hln := markIntS_len x k
  unfold cntIntS at h1
  refine fnOk (n := 21) (mo := []) (tb := []) Tryz.func13 (by kernel_rfl) rfl (by kernel_rfl) (by rfl) (.inr ⟨trivial, trivial⟩) ?_
  repeat' ((conv => whnf); first | with_reducible (first | refine Ln.mk (List.length_map ..) ?_ | refine Wr.mk (wrapI (by omega) (by omega)) ?_ | refine Bf.not ?_ | refine Fin_.mk rfl ?_) | refine Bf.t rfl ?_ | refine Bf.f rfl ?_)
  (conv => whnf)
  refine Lp.mk (ι := Nat) (fun i => [(0, .hold .one (rIntS .imm (markIntS x k))), (1, .hold .one [I (k + (preIntS x i : Nat))]), (5, .hold .one [I (i : Nat)])]) (fun i => i ≤ x.length) (fun i => x.length - i) 0 ?_ (Nat.zero_le _) fun i hi => ?_
  · repeat' (first | exact trivial | rfl | exact And.intro rfl (And.intro (congrArg I (by unfold preIntS; omega)) trivial) | refine And.intro ?_ ?_)
  · by_cases hlt : i < x.length
    · obtain ⟨y, hy⟩ : ∃ y, x[i]? = some y := ⟨_, List.getElem?_eq_getElem hlt⟩
      have hm := markIntS_get x k i hlt
      unfold preIntS
      repeat' ((conv => whnf); first | with_reducible (first | refine Ln.mk (List.length_map ..) ?_ | refine Wr.mk (wrapI (by omega) (by omega)) ?_ | refine Bf.D (fun h => ?_) (fun h => absurd h (by omega)) | refine Ix.nat (get_map hm) ?_ | refine Bf.D (fun h => absurd h (by omega)) (fun h => ?_) | refine Bf.N (fun h => absurd h (by omega)) (fun h => ?_) | refine Bf.not ?_ | refine Fin_.mk rfl ?_) | refine Bf.t rfl ?_ | refine Bf.f rfl ?_ | refine Nx.mk (i + 1) (by omega) (by omega) ?_)
      repeat' (first | exact trivial | rfl | exact And.intro rfl (And.intro (congrArg I (by first | omega | (unfold preIntS; omega))) trivial) | refine And.intro ?_ ?_)
    · repeat' ((conv => whnf); first | with_reducible (first | refine Ln.mk (List.length_map ..) ?_ | refine Wr.mk (wrapI (by omega) (by omega)) ?_ | refine Bf.D (fun h => absurd h (by omega)) (fun h => ?_) | refine Bf.N (fun h => absurd h (by omega)) (fun h => ?_) | refine Bf.not ?_ | refine Fin_.mk rfl ?_) | refine Bf.t rfl ?_ | refine Bf.f rfl ?_)
      have he : i = x.length := by omega
      subst he
      exact congrArg (fun z => [I z]) (by unfold preIntS cntIntS; rfl)
end Go.Proofs.YthinjmmlpgjhnaaGreat.Ab
