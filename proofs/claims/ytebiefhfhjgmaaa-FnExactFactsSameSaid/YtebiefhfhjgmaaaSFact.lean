/- The laws' own helpers for Fact (3 integer fields): conversions, comparisons, marks. Bounds on lengths alone. -/
import Derived.Test.YtebiefhfhjgmaaaMem
import Derived.Outline
import Derived.StillTailTactics
namespace Go.Proofs.Ytebiefhfhjgmaaa.SFact
open Go.RowKit Mm

set_option maxHeartbeats 400000 in
theorem to_any (x0 x1 x2 : Int) (w : World) :
    Calls Try.prog 31 #[.agg #[.int .i64 x0, .int .i64 x1, .int .i64 x2]] w fun e w' => e = .returned (.agg #[.int .i64 x0, .int .i64 x1, .int .i64 x2]) ∧ Below w.heap.size w w' := by
  go_enter Try.func31, Try.ntmps31
  go_wp2
  refine bodyPost_ret (v := .agg #[.int .i64 x0, .int .i64 x1, .int .i64 x2]) (by simp [results, Try.results31, go_sem]) rfl ⟨rfl, ?_⟩
  go_grown

set_option maxHeartbeats 400000 in
theorem eq_same (x0 x1 x2 : Int) (w : World) :
    Calls Try.prog 33 #[.agg #[.int .i64 x0, .int .i64 x1, .int .i64 x2], .agg #[.int .i64 x0, .int .i64 x1, .int .i64 x2]] w fun e w' => e = .returned (.bool true) ∧ Below w.heap.size w w' := by
  go_enter Try.func33, Try.ntmps33
  go_wp2
  go_ret
  refine ⟨rfl, ?_⟩
  go_grown

theorem info_t : (Try.prog.info? 50).map (fun i => (i.zero, i.size, i.bytes)) = some (some (.agg #[I 0, I 0, I 0]), 3, 24) := by kernel_rfl
set_option maxHeartbeats 400000 in
theorem toS_any (A : Option Addr) (n c : Nat) (zs : List Int) (w : World) (h : IRow w w.heap.size A n 3 zs) (hn : n ≤ 1048576) :
    Calls Try.prog 12 #[.slice A n c] w fun e w' => e = .returned (.slice (some ⟨w.heap.size, 0, none⟩) n n) ∧ w'.ownsRow w.heap.size 50 3 (.slice (some ⟨w.heap.size, 0, none⟩) n n) n (zs.map I) ∧ Below w.heap.size w w' := by
  have hlen := h.1
  have hmp := made_fillP zs n #[I 0, I 0, I 0] 3 rfl (by omega) hlen.symm
  have Hmp := Lib.hid hmp
  have Hlen := Lib.hid hlen
  clear hmp hlen
  obtain ⟨i0, hi0, hz0, hz1, hz2⟩ := info_parts info_t
  have hmk := fun W => run_make_rowN (P := Try.prog) 27 50 i0 _ Try.underlying27 hi0 hz0 .i64 .i64 n n (Nat.le_refl _) (by rw [hz2]; omega) (by omega) W
  rw [hz1] at hmk
  clear hi0 hz0 hz1 hz2
  go_enter Try.func12, Try.ntmps12
  go_wp2
  go_loopw [4] (fun i wr => ∃ k : Nat, k ≤ n ∧ i = .int .i64 k ∧ Blk wr w.heap.size 50 (fillP zs (k * 3)) ∧ Below w.heap.size w wr) (fun i _ => n - (intOf i).toNat)
  case atStart => exact ⟨0, Nat.zero_le _, rfl, by rw [Hmp.out, Nat.zero_mul]; exact Blk.new _ _ _, (Below.refl _ _).alloc (Nat.le_refl _) _⟩
  case round =>
    obtain ⟨k, hk, rfl, hb, hbel⟩ := hrel
    clear hmk Hmp
    by_cases hlt : k < n
    · obtain ⟨b, off, rfl, hbB⟩ := h.form (by omega)
      have g0 := (hbel.cell (p := ⟨b, off + k * 3, none⟩) hbB).trans (h.at_ hlt (j := 0) (by omega))
      have g1 := (hbel.cell (p := ⟨b, off + k * 3 + 1, none⟩) hbB).trans (h.at_ hlt (j := 1) (by omega))
      have g2 := (hbel.cell (p := ⟨b, off + k * 3 + 2, none⟩) hbB).trans (h.at_ hlt (j := 2) (by omega))
      clear h
      have Hb := Lib.hid hb
      have Hbel := Lib.hid hbel
      clear hb hbel
      go_wp2_with fail
      refine (to_any _ _ _ _).mono ?_
      rintro e w1 ⟨rfl, hb1⟩
      have hsz : w.heap.size < wr.heap.size := Hb.out.lt
      have Hb1 : Hid (Blk w1 w.heap.size 50 (fillP zs (k * 3))) := Hb.out.below hb1 hsz
      have Hl := Hlen.out
      have s0 : w1.cell? ⟨w.heap.size, k * 3, none⟩ = some (I 0) := by rw [Hb1.out.cell]; exact fillP_get _ _ _ (by omega) (by omega)
      have s1 : w1.cell? ⟨w.heap.size, k * 3 + 1, none⟩ = some (I 0) := by rw [Hb1.out.cell]; exact fillP_get _ _ _ (by omega) (by omega)
      have s2 : w1.cell? ⟨w.heap.size, k * 3 + 2, none⟩ = some (I 0) := by rw [Hb1.out.cell]; exact fillP_get _ _ _ (by omega) (by omega)
      have f0 : w1.frozen? ⟨w.heap.size, k * 3, none⟩ = false := Hb1.out.frozen _
      have f1 : w1.frozen? ⟨w.heap.size, k * 3 + 1, none⟩ = false := Hb1.out.frozen _
      have f2 : w1.frozen? ⟨w.heap.size, k * 3 + 2, none⟩ = false := Hb1.out.frozen _
      clear Hl g0 g1 g2
      have Hbb := Lib.hid hb1
      clear hb1
      go_wp2
      go_roundw
      case rel =>
        have Hl2 := Hlen.out
        exact ⟨k + 1, by omega, by go_num, by rw [show (k + 1) * 3 = k * 3 + 3 from by omega]; exact (((Hb1.out.fill (by omega)).fill (by omega)).fill (by omega)), ((((Hbel.out.trans (Hbb.out.mono (Nat.le_of_lt hsz))).setCell (Nat.le_refl _) _).setCell (Nat.le_refl _) _).setCell (Nat.le_refl _) _)⟩
      case measure => simp [intOf]; omega
    · obtain rfl : k = n := by omega
      go_wp2
      go_ret
      have Hl2 := Hlen.out
      exact ⟨rfl, own_of_blk (by rw [← fillP_all, Hl2]; exact hb) (Nat.le_refl _) Hl2 (by unfold maxLen; omega), hbel⟩

set_option maxHeartbeats 400000 in
theorem eqS_same (A A' : Option Addr) (n c c' : Nat) (zs : List Int) (w : World) (h : IRow w w.heap.size A n 3 zs) (h' : IRow w w.heap.size A' n 3 zs) (hn : n ≤ 1048576) :
    Calls Try.prog 14 #[.slice A n c, .slice A' n c'] w fun e w' => e = .returned (.bool true) ∧ Below w.heap.size w w' := by
  go_enter Try.func14, Try.ntmps14
  go_wp2
  go_loopw [5] (fun i wr => ∃ k : Nat, k ≤ n ∧ i = .int .i64 k ∧ Below w.heap.size w wr) (fun i _ => n - (intOf i).toNat)
  case atStart => exact ⟨0, Nat.zero_le _, rfl, Below.refl _ _⟩
  case round =>
    obtain ⟨k, hk, rfl, hbel⟩ := hrel
    by_cases hlt : k < n
    · obtain ⟨b, off, rfl, hbB⟩ := h.form (by omega)
      obtain ⟨b', off', rfl, hbB'⟩ := h'.form (by omega)
      have g0 := (hbel.cell (p := ⟨b, off + k * 3, none⟩) hbB).trans (h.at_ hlt (j := 0) (by omega))
      have g1 := (hbel.cell (p := ⟨b, off + k * 3 + 1, none⟩) hbB).trans (h.at_ hlt (j := 1) (by omega))
      have g2 := (hbel.cell (p := ⟨b, off + k * 3 + 2, none⟩) hbB).trans (h.at_ hlt (j := 2) (by omega))
      have g0' := (hbel.cell (p := ⟨b', off' + k * 3, none⟩) hbB').trans (h'.at_ hlt (j := 0) (by omega))
      have g1' := (hbel.cell (p := ⟨b', off' + k * 3 + 1, none⟩) hbB').trans (h'.at_ hlt (j := 1) (by omega))
      have g2' := (hbel.cell (p := ⟨b', off' + k * 3 + 2, none⟩) hbB').trans (h'.at_ hlt (j := 2) (by omega))
      clear h h'
      have Hbel := Lib.hid hbel
      clear hbel
      go_wp2_with fail
      go_still_tail 8, (by kernel_rfl)
      go_wp2_with fail
      refine (eq_same _ _ _ _).mono ?_
      rintro e w1 ⟨rfl, hb1⟩
      have Hbb := Lib.hid hb1
      clear hb1
      go_wp2
      go_roundw
      case rel =>
        exact ⟨k + 1, by omega, by go_num, Hbel.out.drew.trans (Hbb.out.mono Hbel.out.size)⟩
      case measure => simp [intOf]; omega
    · go_wp2
      go_ret
      exact ⟨rfl, hbel⟩

theorem szS_no (A : Option Addr) (n c : Nat) (l : Int) (w : World) (hl : 0 ≤ l) (hl2 : l ≤ 1048576) (hn : n ≤ maxLen) (hlt : l < n) :
    Calls Try.prog 10 #[.slice A n c, .int .i64 l] w fun e w' => e = .returned (.int .i64 (-1)) ∧ w = w' := by
  unfold maxLen at hn
  go_enter Try.func10, Try.ntmps10
  go_wp2
  go_ret
  exact ⟨rfl, rfl⟩
theorem szS_yes (A : Option Addr) (n c : Nat) (l : Int) (w : World) (hl : (n : Int) ≤ l) (hl2 : l ≤ 1048576) :
    Calls Try.prog 10 #[.slice A n c, .int .i64 l] w fun e w' => e = .returned (.int .i64 (l - n)) ∧ w = w' := by
  go_enter Try.func10, Try.ntmps10
  go_wp2
  go_ret
  exact ⟨rfl, rfl⟩

end Go.Proofs.Ytebiefhfhjgmaaa.SFact
