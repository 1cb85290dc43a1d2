/- spec.l36Plain, the kinds 1 2 3 4. -/
import Derived.Test.YtebiefhfhjgmaaaDoorPlainH
namespace Go.Proofs.YtebiefhfhjgmaaaDoor.Pl
set_option maxRecDepth 100000
open Go.RowKit Mm Ac AcM AcW Fp

set_option maxHeartbeats 2000000 in
theorem plain_1 (z : List Int) (hz : gI z 0 = 1) (w : World) :
    Calls Tryd.prog 61 #[Agg z] w (PRet z 1 w) := by
  have hA : Agg z = .agg #[I 1, I (gI z 1), I (gI z 2), I (gI z 3), I (gI z 4)] := by unfold Agg; rw [hz]
  rw [hA]
  clear hA hz
  go_enter Tryd.func61, Tryd.ntmps61
  go_wp2
  try (go_region; go_wp2)
  all_goals
    refine bodyPost_ret (ret_act3 Tryd.results61 (p := 2) (u := 3) (v := 4) (g := w.heap.size + 1) (x0 := 1) (x1 := gI z 1) (x2 := gI z 2) (x3 := 0) (x4 := 0) rfl ?_) rfl ⟨_, _, rfl, ?_, ?_⟩
    · (repeat' (first | (refine blk_new' ?_; simp; done) | with_reducible refine Blk.drew ?_ | with_reducible refine blk_alloc' _ ?_))
    · (repeat' (first | (refine own_new' ?_ ?_ rfl ?_ <;> first | omega | decide | (simp; done)) | with_reducible refine own_drew ?_ | with_reducible refine own_alloc' _ ?_))
    · go_grown

set_option maxHeartbeats 2000000 in
theorem plain_2 (z : List Int) (hz : gI z 0 = 2) (w : World) :
    Calls Tryd.prog 61 #[Agg z] w (PRet z 2 w) := by
  have hA : Agg z = .agg #[I 2, I (gI z 1), I (gI z 2), I (gI z 3), I (gI z 4)] := by unfold Agg; rw [hz]
  rw [hA]
  clear hA hz
  go_enter Tryd.func61, Tryd.ntmps61
  go_wp2
  try (go_region; go_wp2)
  all_goals
    refine bodyPost_ret (ret_act3 Tryd.results61 (p := 2) (u := 3) (v := 4) (g := w.heap.size + 1) (x0 := 2) (x1 := gI z 1) (x2 := gI z 2) (x3 := 0) (x4 := 0) rfl ?_) rfl ⟨_, _, rfl, ?_, ?_⟩
    · (repeat' (first | (refine blk_new' ?_; simp; done) | with_reducible refine Blk.drew ?_ | with_reducible refine blk_alloc' _ ?_))
    · (repeat' (first | (refine own_new' ?_ ?_ rfl ?_ <;> first | omega | decide | (simp; done)) | with_reducible refine own_drew ?_ | with_reducible refine own_alloc' _ ?_))
    · go_grown

set_option maxHeartbeats 2000000 in
theorem plain_3 (z : List Int) (hz : gI z 0 = 3) (w : World) :
    Calls Tryd.prog 61 #[Agg z] w (PRet z 3 w) := by
  have hA : Agg z = .agg #[I 3, I (gI z 1), I (gI z 2), I (gI z 3), I (gI z 4)] := by unfold Agg; rw [hz]
  rw [hA]
  clear hA hz
  go_enter Tryd.func61, Tryd.ntmps61
  go_wp2
  try (go_region; go_wp2)
  all_goals
    refine bodyPost_ret (ret_act3 Tryd.results61 (p := 2) (u := 3) (v := 4) (g := w.heap.size + 1) (x0 := 3) (x1 := 0) (x2 := gI z 2) (x3 := gI z 3) (x4 := gI z 4) rfl ?_) rfl ⟨_, _, rfl, ?_, ?_⟩
    · (repeat' (first | (refine blk_new' ?_; simp; done) | with_reducible refine Blk.drew ?_ | with_reducible refine blk_alloc' _ ?_))
    · (repeat' (first | (refine own_new' ?_ ?_ rfl ?_ <;> first | omega | decide | (simp; done)) | with_reducible refine own_drew ?_ | with_reducible refine own_alloc' _ ?_))
    · go_grown

set_option maxHeartbeats 2000000 in
theorem plain_4 (z : List Int) (hz : gI z 0 = 4) (w : World) :
    Calls Tryd.prog 61 #[Agg z] w (PRet z 4 w) := by
  have hA : Agg z = .agg #[I 4, I (gI z 1), I (gI z 2), I (gI z 3), I (gI z 4)] := by unfold Agg; rw [hz]
  rw [hA]
  clear hA hz
  go_enter Tryd.func61, Tryd.ntmps61
  go_wp2
  try (go_region; go_wp2)
  all_goals
    refine bodyPost_ret (ret_act3 Tryd.results61 (p := 2) (u := 3) (v := 4) (g := w.heap.size + 1) (x0 := 4) (x1 := 0) (x2 := gI z 2) (x3 := 0) (x4 := gI z 4) rfl ?_) rfl ⟨_, _, rfl, ?_, ?_⟩
    · (repeat' (first | (refine blk_new' ?_; simp; done) | with_reducible refine Blk.drew ?_ | with_reducible refine blk_alloc' _ ?_))
    · (repeat' (first | (refine own_new' ?_ ?_ rfl ?_ <;> first | omega | decide | (simp; done)) | with_reducible refine own_drew ?_ | with_reducible refine own_alloc' _ ?_))
    · go_grown

end Go.Proofs.YtebiefhfhjgmaaaDoor.Pl
