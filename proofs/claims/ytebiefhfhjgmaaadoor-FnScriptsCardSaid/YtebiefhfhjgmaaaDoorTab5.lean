/- The library's tables of a string's runes and of numbers: a start that fits. -/
import Derived.Test.YtebiefhfhjgmaaaDoorTab2
import GoSem.PinnedTables
namespace Go.Proofs.YtebiefhfhjgmaaaDoor.Tb5
set_option maxRecDepth 100000
open Go Go.RowKit
open Tb2 (tabA tabF)

abbrev laid5 : List (String × DataW Unit) := [("math/bits.deBruijn32tab", Rows.laid_math_bits_deBruijn32tab), ("math/bits.deBruijn64tab", Rows.laid_math_bits_deBruijn64tab), ("internal/strconv.uint64pow10", Rows.laid_internal_strconv_uint64pow10), ("unicode/utf8.acceptRanges", Rows.laid_unicode_utf8_acceptRanges), ("unicode/utf8.first", Rows.laid_unicode_utf8_first)]
theorem tab_of_laid {W : World} (h : laidMetH Tryd.prog laid5 W) : Tb.Tab W := by
  have h : laidMet Tryd.prog laid5 W := h
  have h3 := h.tail.tail
  exact Lib.tabIs_of_head (g := 1) Tb.glob (by kernel_rfl) Tryd.underlying140 Tryd.underlying131 (by kernel_rfl) (by kernel_rfl) h3
noncomputable def laidWorld (os : Os) (blocks : Array Obj) : World :=
  let w0 := World.holding Tryd.prog os ⟨blocks, #[], []⟩
  let f := fun (zs : Array Value) (o : Obj) => match o with
      | .cells _ t frozen => .cells zs t frozen
      | o => o
  { w0 with heap := ((((w0.heap.modify 1 (f (Tb.row .u64 Lib.pow10Tab))).modify 4 (f (Tb.row .u8 Tb.tab32))).modify 5 (f (Tb.row .u8 Tb.tab64))).modify 3 (f (Tb.row .u8 tabA))).modify 2 (f (Tb.row .u8 tabF)) }
def places : List MemPlace := Tb.places ++ Tb2.places
set_option maxRecDepth 100000 in
theorem laidWorld_met (os : Os) (args : Array Value) : laidMetH Tryd.prog laid5 ((laidWorld os #[]).forCall (fun _ _ => 0) ⟨#[], args, []⟩).memory :=
  laidMet_of_run (ps := places) 8 (by kernel_rfl) (by kernel_rfl) (by kernel_rfl)
end Go.Proofs.YtebiefhfhjgmaaaDoor.Tb5
