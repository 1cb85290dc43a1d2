/- The laws' own helpers for Span (3 integer fields): conversions, comparisons, marks. Bounds on lengths alone. -/
import Derived.Test.YtebiefhfhjgmaaaDoorMem
import Derived.Outline
import Derived.StillTailTactics
namespace Go.Proofs.YtebiefhfhjgmaaaDoor.SSpan
set_option maxRecDepth 100000
open Go.RowKit Mm

set_option maxHeartbeats 400000 in
theorem to_any (x0 x1 x2 : Int) (w : World) :
    Calls Tryd.prog 21 #[.agg #[.int .i64 x0, .int .i64 x1, .int .i64 x2]] w fun e w' => e = .returned (.agg #[.int .i64 x0, .int .i64 x1, .int .i64 x2]) ∧ Below w.heap.size w w' := by
  go_enter Tryd.func21, Tryd.ntmps21
  go_wp2
  refine bodyPost_ret (v := .agg #[.int .i64 x0, .int .i64 x1, .int .i64 x2]) (by simp [results, Tryd.results21, go_sem]) rfl ⟨rfl, ?_⟩
  go_grown

end Go.Proofs.YtebiefhfhjgmaaaDoor.SSpan
