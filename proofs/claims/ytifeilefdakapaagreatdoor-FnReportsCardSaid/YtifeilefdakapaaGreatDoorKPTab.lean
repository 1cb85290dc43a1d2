/- The library's table of powers of ten: what the row's condition gives a walk; a start that fits. -/
import Derived.Test.YtifeilefdakapaaGreatDoorRows
import Derived.Test.YtifeilefdakapaaGreatDoorTie
import Derived.Lib.LaidTab
import Derived.Lib.ItoaNum
import Derived.Lib.ItoaMem
import Derived.Below
import Derived.WalkSmall
import Derived.LaidLaws
import Derived.LaidHandle
import Derived.MakeChecks
import Derived.Stop.LaidErr
import Derived.SevenTiedAt
namespace Go.Proofs.YtifeilefdakapaaGreatDoor.Tb
open Go Go.RowKit

abbrev laid3 : List (String × DataW Unit) := [("math/bits.deBruijn32tab", Rows.laid_math_bits_deBruijn32tab), ("math/bits.deBruijn64tab", Rows.laid_math_bits_deBruijn64tab), ("internal/strconv.uint64pow10", Rows.laid_internal_strconv_uint64pow10)]
/-- The table holds the powers of ten. -/
def Tab (w : World) : Prop := Lib.TabIs Tryz.prog w "internal/strconv.uint64pow10" .u64 Lib.pow10Tab
theorem glob : Tryz.prog.globalNamed "internal/strconv.uint64pow10" = some 1 := by kernel_rfl
theorem tab_lt {w : World} (h : Tab w) : 1 < w.heap.size := by
  have := Lib.TabIs.cell h glob 0 (by rw [Lib.pow10Tab_length]; omega)
  exact World.block_lt_of_cell? w _ this
theorem tab_below {w w' : World} (h : Tab w) (hb : Below w.heap.size w w') : Tab w' := var?_below hb glob (tab_lt h) h
theorem tab_alloc {w : World} (h : Tab w) (o : Obj) : Tab (w.alloc o) := Lib.tabIs_alloc h o
theorem tab_of_laid {W : World} (h : laidMetH Tryz.prog laid3 W) : Tab W := by
  have h : laidMet Tryz.prog laid3 W := h
  have h3 := h.tail.tail
  exact Lib.tabIs_of_head (g := 1) glob (by kernel_rfl) Tryz.underlying283 Tryz.underlying232 (by kernel_rfl) (by kernel_rfl) h3
def tab32 : List Int := [0, 1, 28, 2, 29, 14, 24, 3, 30, 22, 20, 15, 25, 17, 4, 8, 31, 27, 13, 23, 21, 19, 16, 7, 26, 12, 18, 6, 11, 5, 10, 9]
def tab64 : List Int := [0, 1, 56, 2, 57, 49, 28, 3, 61, 58, 42, 50, 38, 29, 17, 4, 62, 47, 59, 36, 45, 43, 51, 22, 53, 39, 33, 30, 24, 18, 12, 5, 63, 55, 48, 27, 60, 41, 37, 16, 46, 35, 44, 21, 52, 32, 23, 11, 54, 26, 40, 15, 34, 20, 31, 10, 25, 14, 19, 9, 13, 8, 7, 6]
/-- Integers of a kind, as cells. -/
def row (k : IntKind) (zs : List Int) : Array Value := (zs.map fun z => Value.int k z).toArray
/-- The settled world, the three tables laid. -/
noncomputable def laidWorld (os : Os) (blocks : Array Obj) : World :=
  let w0 := World.holding Tryz.prog os ⟨blocks, #[], []⟩
  let f := fun (zs : Array Value) (o : Obj) => match o with
      | .cells _ t frozen => .cells zs t frozen
      | o => o
  { w0 with heap := ((w0.heap.modify 1 (f (row .u64 Lib.pow10Tab))).modify 2 (f (row .u8 tab32))).modify 3 (f (row .u8 tab64)) }
def places : List MemPlace := ((List.range 32).map (MemPlace.cell 2)) ++ (((List.range 64).map (MemPlace.cell 3)) ++ ((List.range 20).map (MemPlace.cell 1)))
theorem laidWorld_met (os : Os) (args : Array Value) : laidMetH Tryz.prog laid3 ((laidWorld os #[]).forCall (fun _ _ => 0) ⟨#[], args, []⟩).memory :=
  laidMet_of_run (ps := places) 8 (by kernel_rfl) (by kernel_rfl) (by kernel_rfl)
end Go.Proofs.YtifeilefdakapaaGreatDoor.Tb
