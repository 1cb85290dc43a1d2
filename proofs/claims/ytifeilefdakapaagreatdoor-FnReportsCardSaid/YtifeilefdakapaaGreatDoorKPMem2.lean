/- More words for memory. -/
import Derived.Test.YtifeilefdakapaaGreatDoorKPMem
namespace Go.Proofs.YtifeilefdakapaaGreatDoor.Mm
open Go.RowKit

theorem ne_symm {a b : Option Nat} (h : a = none ∨ a ≠ b) : b = none ∨ b ≠ a := by
  rcases h with rfl | h
  · cases b <;> simp
  · exact .inr fun e => h e.symm
theorem seqI_own {w : World} {base n k : Nat} {e : TypeId} {v : Value} {k0 : Int} (h : w.ownsRow base e k v n ((seqI k0 (n * k)).map I)) : w.ownsRow base e k v n ((seqI k0 (n * k)).map I) := h
end Go.Proofs.YtifeilefdakapaaGreatDoor.Mm
