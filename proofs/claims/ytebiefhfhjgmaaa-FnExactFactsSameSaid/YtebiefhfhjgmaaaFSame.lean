/- spec.FactsSame, slices.Equal at Fact and impl.FactsSame return whether the two rows hold the same numbers. -/
import Derived.Test.YtebiefhfhjgmaaaSFact
import Derived.StillTailTactics
namespace Go.Proofs.Ytebiefhfhjgmaaa.FSame
open Go.RowKit Mm

set_option maxHeartbeats 400000 in
theorem spec_any (A A' : Option Addr) (n m c c' : Nat) (zs ys : List Int) (w : World) (h : IRow w w.heap.size A n 3 zs) (h' : IRow w w.heap.size A' m 3 ys) (hn : n ≤ 1048576) (hm : m ≤ 1048576) :
    Calls Try.prog 11 #[.slice A n c, .slice A' m c'] w fun e w' => e = .returned (.bool (decide (zs = ys))) ∧ Below w.heap.size w w' := by
  have hl := h.1
  have hl' := h'.1
  by_cases hnm : n = m
  · subst hnm
    have Hl := Lib.hid hl
    have Hl' := Lib.hid hl'
    clear hl hl'
    go_enter Try.func11, Try.ntmps11
    go_wp2
    go_loopw [5] (fun i wr => ∃ k : Nat, k ≤ n ∧ i = .int .i64 k ∧ (∀ j, j < k * 3 → gI zs j = gI ys j) ∧ Below w.heap.size w wr) (fun i _ => n - (intOf i).toNat)
    case atStart => exact ⟨0, Nat.zero_le _, rfl, fun j hj => by omega, Below.refl _ _⟩
    case round =>
      obtain ⟨k, hk, rfl, heq, hbel⟩ := hrel
      have Heq := Lib.hid heq
      have Hbel := Lib.hid hbel
      clear heq
      by_cases hlt : k < n
      · obtain ⟨b, off, rfl, hbB⟩ := h.form (by omega)
        obtain ⟨b', off', rfl, hbB'⟩ := h'.form (by omega)
        have g0 := (hbel.cell (p := ⟨b, off + k * 3, none⟩) hbB).trans (h.at_ hlt (j := 0) (by omega))
        have g0' := (hbel.cell (p := ⟨b', off' + k * 3, none⟩) hbB').trans (h'.at_ hlt (j := 0) (by omega))
        have g1 := (hbel.cell (p := ⟨b, off + k * 3 + 1, none⟩) hbB).trans (h.at_ hlt (j := 1) (by omega))
        have g1' := (hbel.cell (p := ⟨b', off' + k * 3 + 1, none⟩) hbB').trans (h'.at_ hlt (j := 1) (by omega))
        have g2 := (hbel.cell (p := ⟨b, off + k * 3 + 2, none⟩) hbB).trans (h.at_ hlt (j := 2) (by omega))
        have g2' := (hbel.cell (p := ⟨b', off' + k * 3 + 2, none⟩) hbB').trans (h'.at_ hlt (j := 2) (by omega))
        clear h h' hbel
        go_wp2_with fail
        go_still_tail 8, (by kernel_rfl)
        go_wp2
        all_goals first
          | (go_ret; exact ⟨ret_bool (ne_of_gI ‹_›), Hbel.out.drew⟩)
          | skip
        rename_i e0 e1 e2
        have E := Lib.hid (And.intro e0 (And.intro e1 e2))
        clear e0 e1 e2
        go_roundw
        case rel =>
          refine ⟨k + 1, by omega, by go_num, fun j hj => ?_, Hbel.out.drew⟩
          obtain ⟨e0, e1, e2⟩ := E.out
          by_cases h0 : j < k * 3
          · exact Heq.out j h0
          · rcases (show j = k * 3 ∨ j = k * 3 + 1 ∨ j = k * 3 + 2 by omega) with rfl | rfl | rfl <;> assumption
        case measure => simp [intOf]; omega
      · obtain rfl : k = n := by omega
        go_wp2
        go_ret
        exact ⟨ret_bool (decide_eq_true (eq_of_gI (Hl.out.trans Hl'.out.symm) (fun j hj => Heq.out j (by rw [← Hl.out]; exact hj)))).symm, hbel⟩
  · have hne : ((n : Int) == (m : Int)) = false := by simp; omega
    have hne' : ((n : Int) != (m : Int)) = true := by simp; omega
    have hlen : zs.length ≠ ys.length := by omega
    have Hlen := Lib.hid hlen
    clear hl hl' hlen hnm
    go_enter Try.func11, Try.ntmps11
    go_wp2
    go_ret
    exact ⟨ret_bool (ne_of_len Hlen.out), Below.refl _ _⟩
set_option maxHeartbeats 400000 in
theorem lib_any (A A' : Option Addr) (n m c c' : Nat) (zs ys : List Int) (w : World) (h : IRow w w.heap.size A n 3 zs) (h' : IRow w w.heap.size A' m 3 ys) (hn : n ≤ 1048576) (hm : m ≤ 1048576) :
    Calls Try.prog 32 #[.slice A n c, .slice A' m c'] w fun e w' => e = .returned (.bool (decide (zs = ys))) ∧ Below w.heap.size w w' := by
  have hl := h.1
  have hl' := h'.1
  by_cases hnm : n = m
  · subst hnm
    have Hl := Lib.hid hl
    have Hl' := Lib.hid hl'
    clear hl hl'
    go_enter Try.func32, Try.ntmps32
    go_wp2
    go_loopw [13] (fun i wr => ∃ k : Nat, k ≤ n ∧ i = .int .i64 (k : Int) ∧ (∀ j, j < k * 3 → gI zs j = gI ys j) ∧ Below w.heap.size w wr) (fun i _ => n - (intOf i).toNat)
    case atStart => exact ⟨0, Nat.zero_le _, rfl, fun j hj => by omega, Below.refl _ _⟩
    case round =>
      obtain ⟨k, hk, rfl, heq, hbel⟩ := hrel
      have Heq := Lib.hid heq
      have Hbel := Lib.hid hbel
      clear heq
      by_cases hlt : k < n
      · obtain ⟨b, off, rfl, hbB⟩ := h.form (by omega)
        obtain ⟨b', off', rfl, hbB'⟩ := h'.form (by omega)
        have g0 := (hbel.cell (p := ⟨b, off + k * 3, none⟩) hbB).trans (h.at_ hlt (j := 0) (by omega))
        have g0' := (hbel.cell (p := ⟨b', off' + k * 3, none⟩) hbB').trans (h'.at_ hlt (j := 0) (by omega))
        have g1 := (hbel.cell (p := ⟨b, off + k * 3 + 1, none⟩) hbB).trans (h.at_ hlt (j := 1) (by omega))
        have g1' := (hbel.cell (p := ⟨b', off' + k * 3 + 1, none⟩) hbB').trans (h'.at_ hlt (j := 1) (by omega))
        have g2 := (hbel.cell (p := ⟨b, off + k * 3 + 2, none⟩) hbB).trans (h.at_ hlt (j := 2) (by omega))
        have g2' := (hbel.cell (p := ⟨b', off' + k * 3 + 2, none⟩) hbB').trans (h'.at_ hlt (j := 2) (by omega))
        clear h h' hbel
        go_wp2_with fail
        go_still_tail 8, (by kernel_rfl)
        go_wp2
        all_goals first
          | (go_ret; exact ⟨ret_bool (ne_of_gI ‹_›), Hbel.out.drew⟩)
          | skip
        rename_i e0 e1 e2
        have E := Lib.hid (And.intro e0 (And.intro e1 e2))
        clear e0 e1 e2
        go_roundw
        case rel =>
          refine ⟨k + 1, by omega, by go_num, fun j hj => ?_, Hbel.out.drew⟩
          obtain ⟨e0, e1, e2⟩ := E.out
          by_cases h0 : j < k * 3
          · exact Heq.out j h0
          · rcases (show j = k * 3 ∨ j = k * 3 + 1 ∨ j = k * 3 + 2 by omega) with rfl | rfl | rfl <;> assumption
        case measure => simp [intOf]; omega
      · obtain rfl : k = n := by omega
        go_wp2
        go_ret
        exact ⟨ret_bool (decide_eq_true (eq_of_gI (Hl.out.trans Hl'.out.symm) (fun j hj => Heq.out j (by rw [← Hl.out]; exact hj)))).symm, hbel⟩
  · have hne : ((n : Int) == (m : Int)) = false := by simp; omega
    have hne' : ((n : Int) != (m : Int)) = true := by simp; omega
    have hlen : zs.length ≠ ys.length := by omega
    have Hlen := Lib.hid hlen
    clear hl hl' hlen hnm
    go_enter Try.func32, Try.ntmps32
    go_wp2
    go_ret
    exact ⟨ret_bool (ne_of_len Hlen.out), Below.refl _ _⟩

theorem impl_any (A A' : Option Addr) (n m c c' : Nat) (zs ys : List Int) (w : World) (h : IRow w w.heap.size A n 3 zs) (h' : IRow w w.heap.size A' m 3 ys) (hn : n ≤ 1048576) (hm : m ≤ 1048576) :
    Calls Try.prog 13 #[.slice A n c, .slice A' m c'] w fun e w' => e = .returned (.bool (decide (zs = ys))) ∧ Below w.heap.size w w' := by
  go_enter Try.func13, Try.ntmps13
  go_wp2_with fail
  refine (lib_any A A' n m c c' zs ys _ h h' hn hm).mono ?_
  rintro e w1 ⟨rfl, hb⟩
  go_wp2_with fail
  go_ret
  exact ⟨rfl, hb⟩
end Go.Proofs.Ytebiefhfhjgmaaa.FSame
