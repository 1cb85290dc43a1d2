/- Contracts, drawn regions and all. No condition. -/
import Derived.Test.YthinjmmlpgjhnaaGreatAbF
import Derived.Test.YthinjmmlpgjhnaaGreatAbE
namespace Go.Proofs.YthinjmmlpgjhnaaGreat.Ab
open Go.RowKit
theorem drawOk_all {P : Program} {TE : Nat → Option TI} (hTE : ∀ t i, TE t = some i → TOk P t i) (hm : P.follows .mixedOrders = true) (N : Lim) (tb : List (Nat × Nat × List Nat)) : DrawOk P N (drawOk tb) (DD P TE N tb) :=
  fun _ _ hok _ _ _ _ _ _ _ _ hp hs hq => draw_sound hTE hm hok hp hs hq
end Go.Proofs.YthinjmmlpgjhnaaGreat.Ab
