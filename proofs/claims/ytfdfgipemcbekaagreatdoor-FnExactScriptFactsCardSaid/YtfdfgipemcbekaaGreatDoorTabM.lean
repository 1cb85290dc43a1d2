/- The library's variable of the longest search, and that whoever leaves its block alone leaves it be. No condition. -/
import Derived.Test.YtfdfgipemcbekaaGreatDoorProg
import Derived.Below
namespace Go.Proofs.YtfdfgipemcbekaaGreatDoor.Tbl
open Go Go.RowKit
def MaxV (w : World) : Prop := ∃ m, w.cell? ⟨0, 0, none⟩ = some (.int .i64 m)
theorem max_lt {w : World} (h : MaxV w) : 0 < w.heap.size := by
  obtain ⟨m, h⟩ := h
  exact World.block_lt_of_cell? w _ h
theorem max_blk {w w1 : World} (h : MaxV w) (hb : w1.heap[(0 : Nat)]? = w.heap[(0 : Nat)]?) : MaxV w1 := by
  unfold MaxV World.cell? at h ⊢
  simpa only [hb] using h
end Go.Proofs.YtfdfgipemcbekaaGreatDoor.Tbl
