/- spec.l36Plain of no kind. -/
import Derived.Test.YtebiefhfhjgmaaaDoorPlainH
namespace Go.Proofs.YtebiefhfhjgmaaaDoor.Pl
set_option maxRecDepth 100000
open Go.RowKit Mm Ac AcM AcW Fp
/-- No kind: no word. -/
def PNo (w : World) (e : Ending) (w' : World) : Prop := ∃ s, e = .returned (.tuple #[Agg [], .string ⟨#[]⟩, s]) ∧ Below w.heap.size w w'
set_option maxHeartbeats 2000000 in
theorem plain_no (z : List Int) (hz : gI z 0 < 1 ∨ 10 < gI z 0) (w : World) :
    Calls Tryd.prog 61 #[Agg z] w (PNo w) := by
  obtain ⟨x0, h0⟩ : ∃ x, gI z 0 = x := ⟨_, rfl⟩
  have hA : Agg z = .agg #[I x0, I (gI z 1), I (gI z 2), I (gI z 3), I (gI z 4)] := by unfold Agg; rw [h0]
  rw [h0] at hz
  rw [hA]
  clear hA h0
  have q1 : (x0 == 1) = false := by simp; omega
  have q2 : (x0 == 2) = false := by simp; omega
  have q3 : (x0 == 3) = false := by simp; omega
  have q4 : (x0 == 4) = false := by simp; omega
  have q5 : (x0 == 5) = false := by simp; omega
  have q6 : (x0 == 6) = false := by simp; omega
  have q7 : (x0 == 7) = false := by simp; omega
  have q8 : (x0 == 8) = false := by simp; omega
  have q9 : (x0 == 9) = false := by simp; omega
  have q10 : (x0 == 10) = false := by simp; omega
  clear hz
  go_enter Tryd.func61, Tryd.ntmps61
  go_wp2
  try (go_region; go_wp2)
  all_goals
    refine bodyPost_ret (ret_act3 Tryd.results61 (p := 2) (u := 3) (v := 4) (g := w.heap.size + 1) (x0 := 0) (x1 := 0) (x2 := 0) (x3 := 0) (x4 := 0) rfl ?_) rfl ⟨_, rfl, ?_⟩
    · (repeat' (first | (refine blk_new' ?_; simp; done) | with_reducible refine Blk.drew ?_ | with_reducible refine blk_alloc' _ ?_))
    · go_grown
end Go.Proofs.YtebiefhfhjgmaaaDoor.Pl
