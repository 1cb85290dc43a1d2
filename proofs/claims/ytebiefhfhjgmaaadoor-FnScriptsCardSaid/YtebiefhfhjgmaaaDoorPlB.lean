/- spec.l36Plain, the kinds 5. -/
import Derived.Test.YtebiefhfhjgmaaaDoorPlainH
namespace Go.Proofs.YtebiefhfhjgmaaaDoor.Pl
set_option maxRecDepth 100000
open Go.RowKit Mm Ac AcM AcW Fp

set_option maxHeartbeats 2000000 in
theorem plain_5 (z : List Int) (hz : gI z 0 = 5) (w : World) :
    Calls Tryd.prog 61 #[Agg z] w (PRet z 5 w) := by
  have hA : Agg z = .agg #[I 5, I (gI z 1), I (gI z 2), I (gI z 3), I (gI z 4)] := by unfold Agg; rw [hz]
  rw [hA]
  clear hA hz
  go_enter Tryd.func61, Tryd.ntmps61
  go_wp2
  try (go_region; go_wp2)
  all_goals
    refine bodyPost_ret (ret_act3 Tryd.results61 (p := 2) (u := 3) (v := 4) (g := w.heap.size + 1) (x0 := 5) (x1 := gI z 1) (x2 := 0) (x3 := 0) (x4 := 0) rfl ?_) rfl ⟨_, _, rfl, ?_, ?_⟩
    · (repeat' (first | (refine blk_new' ?_; simp; done) | with_reducible refine Blk.drew ?_ | with_reducible refine blk_alloc' _ ?_))
    · (repeat' (first | (refine own_new' ?_ ?_ rfl ?_ <;> first | omega | decide | (simp; done)) | with_reducible refine own_drew ?_ | with_reducible refine own_alloc' _ ?_))
    · go_grown

end Go.Proofs.YtebiefhfhjgmaaaDoor.Pl
