/- The library's tables of a string's runes: a start that fits. -/
import Derived.Test.YtebiefhfhjgmaaaDoorTab
import GoSem.PinnedTables
namespace Go.Proofs.YtebiefhfhjgmaaaDoor.Tb2
set_option maxRecDepth 100000
open Go Go.RowKit

abbrev laid2 : List (String × DataW Unit) := [("unicode/utf8.acceptRanges", Rows.laid_unicode_utf8_acceptRanges), ("unicode/utf8.first", Rows.laid_unicode_utf8_first)]
def tabA : List Int := [128, 191, 160, 191, 128, 159, 144, 191, 128, 143] ++ List.replicate 22 0
def tabF : List Int := Go.Pinned.utf8FirstZ.map Int.ofNat
noncomputable def laidWorld (os : Os) (blocks : Array Obj) : World :=
  let w0 := World.holding Tryd.prog os ⟨blocks, #[], []⟩
  let f := fun (zs : Array Value) (o : Obj) => match o with
      | .cells _ t frozen => .cells zs t frozen
      | o => o
  { w0 with heap := (w0.heap.modify 3 (f (Tb.row .u8 tabA))).modify 2 (f (Tb.row .u8 tabF)) }
def places : List MemPlace := ((List.range 32).map (MemPlace.cell 3)) ++ ((List.range 256).map (MemPlace.cell 2))
set_option maxRecDepth 100000 in
theorem laidWorld_met (os : Os) (args : Array Value) : laidMetH Tryd.prog laid2 ((laidWorld os #[]).forCall (fun _ _ => 0) ⟨#[], args, []⟩).memory :=
  laidMet_of_run (ps := places) 8 (by kernel_rfl) (by kernel_rfl) (by kernel_rfl)
end Go.Proofs.YtebiefhfhjgmaaaDoor.Tb2
