/- The laws' own helpers for Account (8 integer fields): conversions, comparisons, marks. Bounds on lengths alone. -/
import Derived.Test.YtebiefhfhjgmaaaDoorMem
import Derived.Outline
import Derived.StillTailTactics
namespace Go.Proofs.YtebiefhfhjgmaaaDoor.SAccount
set_option maxRecDepth 100000
open Go.RowKit Mm

set_option maxHeartbeats 400000 in
theorem to_any (x0 x1 x2 x3 x4 x5 x6 x7 : Int) (w : World) :
    Calls Tryd.prog 24 #[.agg #[.int .i64 x0, .int .i64 x1, .int .i64 x2, .int .i64 x3, .int .i64 x4, .int .i64 x5, .int .i64 x6, .int .i64 x7]] w fun e w' => e = .returned (.agg #[.int .i64 x0, .int .i64 x1, .int .i64 x2, .int .i64 x3, .int .i64 x4, .int .i64 x5, .int .i64 x6, .int .i64 x7]) ∧ Below w.heap.size w w' := by
  go_enter Tryd.func24, Tryd.ntmps24
  go_wp2
  refine bodyPost_ret (v := .agg #[.int .i64 x0, .int .i64 x1, .int .i64 x2, .int .i64 x3, .int .i64 x4, .int .i64 x5, .int .i64 x6, .int .i64 x7]) (by simp [results, Tryd.results24, go_sem]) rfl ⟨rfl, ?_⟩
  go_grown

end Go.Proofs.YtebiefhfhjgmaaaDoor.SAccount
