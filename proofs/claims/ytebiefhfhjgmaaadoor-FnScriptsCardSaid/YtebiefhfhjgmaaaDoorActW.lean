/- impl.actParts: the word of an act and pointers to the fields that it uses. -/
import Derived.Test.YtebiefhfhjgmaaaDoorMem2
import Derived.Test.YtebiefhfhjgmaaaDoorActP
import Derived.WalkLawsBesides
namespace Go.Proofs.YtebiefhfhjgmaaaDoor.AcW
set_option maxRecDepth 100000
open Go.RowKit Mm Ac

/-- Two results that lie in slots. -/
theorem own_new (w : World) (cs : Array Value) (e : TypeId) (n : Nat) (h : cs.size = n) (hm : n ≤ maxLen) : (w.alloc (.cells cs e)).ownsRow w.heap.size e 1 (.slice (some ⟨w.heap.size, 0, none⟩) n n) n cs.toList := by
  subst h
  refine ⟨by simp, .inr ⟨_, _, cs, rfl, Nat.le_refl _, heap_alloc_new w _, Nat.le_refl _, hm, by simp, ?_⟩⟩
  exact List.take_of_length_le (by simp)
def Ptrs (g : Nat) (l : List Nat) : List Value := l.map fun i => .pointer (some ⟨g, i, none⟩)
def PartsRet (k g : Nat) (w : World) (e : Ending) (w' : World) : Prop :=
  ∃ A c, e = .returned (.tuple #[.string (word k), .slice A (idx k).length c]) ∧ w'.ownsRow w.heap.size 88 1 (.slice A (idx k).length c) (idx k).length (Ptrs g (idx k)) ∧ Below w.heap.size w w'
set_option maxHeartbeats 1000000 in
theorem parts_any (k : Nat) (h1 : 1 ≤ k) (h2 : k ≤ 10) (g : Nat) (x1 x2 x3 x4 : Int) (w : World) (hb : Blk w g 44 #[I k, I x1, I x2, I x3, I x4]) :
    Calls Tryd.prog 62 #[.pointer (some ⟨g, 0, none⟩)] w (PartsRet k g w) := by
  have c0 : w.cell? ⟨g, 0, none⟩ = some (I k) := hb.cell 0
  clear hb
  rcases kinds k h1 h2 with rfl | rfl | rfl | rfl | rfl | rfl | rfl | rfl | rfl | rfl
  all_goals
    go_enter Tryd.func62, Tryd.ntmps62
    go_wp2
    try (go_region; go_wp2)
    go_ret2
    first
      | exact ⟨_, _, rfl, own_new w _ _ _ rfl (by decide), by go_grown⟩
      | exact ⟨_, _, rfl, World.ownsRow_nil _ _ _ _, by go_grown⟩
/-- No act: no word. -/
theorem parts_no (k : Int) (h : k < 1 ∨ 10 < k) (g : Nat) (w : World) (c0 : w.cell? ⟨g, 0, none⟩ = some (I k)) :
    Calls Tryd.prog 62 #[.pointer (some ⟨g, 0, none⟩)] w fun e w' => e = .returned (.tuple #[.string ⟨#[]⟩, .slice none 0 0]) ∧ w = w' := by
  have e1 : (k == 1) = false := beq_eq_false_iff_ne.2 (by omega)
  have e2 : (k == 2) = false := beq_eq_false_iff_ne.2 (by omega)
  have e3 : (k == 3) = false := beq_eq_false_iff_ne.2 (by omega)
  have e4 : (k == 4) = false := beq_eq_false_iff_ne.2 (by omega)
  have e5 : (k == 5) = false := beq_eq_false_iff_ne.2 (by omega)
  have e6 : (k == 6) = false := beq_eq_false_iff_ne.2 (by omega)
  have e7 : (k == 7) = false := beq_eq_false_iff_ne.2 (by omega)
  have e8 : (k == 8) = false := beq_eq_false_iff_ne.2 (by omega)
  have e9 : (k == 9) = false := beq_eq_false_iff_ne.2 (by omega)
  have e10 : (k == 10) = false := beq_eq_false_iff_ne.2 (by omega)
  clear h
  go_enter Tryd.func62, Tryd.ntmps62
  go_wp2
  go_ret2
  exact ⟨rfl, rfl⟩
end Go.Proofs.YtebiefhfhjgmaaaDoor.AcW
