/- spec.l36Plain, all kinds; spec.FormatAct. -/
import Derived.Test.YtebiefhfhjgmaaaDoorPlA
import Derived.Test.YtebiefhfhjgmaaaDoorPlB
import Derived.Test.YtebiefhfhjgmaaaDoorPlC
import Derived.Test.YtebiefhfhjgmaaaDoorPlD
import Derived.Test.YtebiefhfhjgmaaaDoorPlE
namespace Go.Proofs.YtebiefhfhjgmaaaDoor.Pl
set_option maxRecDepth 100000
open Go.RowKit Mm Ac AcM AcW Fp

theorem plain_any (z : List Int) (k : Nat) (h1 : 1 ≤ k) (h2 : k ≤ 10) (hz : gI z 0 = (k : Int)) (w : World) :
    Calls Tryd.prog 61 #[Agg z] w (PRet z k w) := by
  rcases kinds k h1 h2 with rfl | rfl | rfl | rfl | rfl | rfl | rfl | rfl | rfl | rfl
  · exact plain_1 z hz w
  · exact plain_2 z hz w
  · exact plain_3 z hz w
  · exact plain_4 z hz w
  · exact plain_5 z hz w
  · exact plain_6 z hz w
  · exact plain_7 z hz w
  · exact plain_8 z hz w
  · exact plain_9 z hz w
  · exact plain_10 z hz w
end Go.Proofs.YtebiefhfhjgmaaaDoor.Pl
