/- The laws' own helpers for []int: conversion, comparison, marks. Bounds on lengths alone. -/
import Derived.Test.YtebiefhfhjgmaaaMem
import Derived.Outline
import Derived.StillTailTactics
namespace Go.Proofs.Ytebiefhfhjgmaaa.SInt
open Go.RowKit Mm

theorem info_t : (Try.prog.info? 3).map (fun i => (i.zero, i.size, i.bytes)) = some (some (I 0), 1, 8) := by kernel_rfl
set_option maxHeartbeats 400000 in
theorem toS_any (A : Option Addr) (n c : Nat) (zs : List Int) (w : World) (h : IRow w w.heap.size A n 1 zs) (hn : n ≤ 1048576) :
    Calls Try.prog 18 #[.slice A n c] w fun e w' => e = .returned (.slice (some ⟨w.heap.size, 0, none⟩) n n) ∧ w'.ownsRow w.heap.size 3 1 (.slice (some ⟨w.heap.size, 0, none⟩) n n) n (zs.map I) ∧ Below w.heap.size w w' := by
  have hlen := h.1
  have hmp := made_fillP zs n #[I 0] 1 rfl (by omega) hlen.symm
  rw [Nat.mul_one] at hmp hlen
  have Hmp := Lib.hid hmp
  have Hlen := Lib.hid hlen
  clear hmp hlen
  obtain ⟨i0, hi0, hz0, hz1, hz2⟩ := info_parts info_t
  have hmk := fun W => run_make_rowN (P := Try.prog) 31 3 i0 _ Try.underlying31 hi0 hz0 .i64 .i64 n n (Nat.le_refl _) (by rw [hz2]; omega) (by omega) W
  rw [hz1, Nat.mul_one] at hmk
  clear hi0 hz0 hz1 hz2
  go_enter Try.func18, Try.ntmps18
  go_wp2
  go_loopw [4] (fun i wr => ∃ k : Nat, k ≤ n ∧ i = .int .i64 k ∧ Blk wr w.heap.size 3 (fillP zs k) ∧ Below w.heap.size w wr) (fun i _ => n - (intOf i).toNat)
  case atStart => exact ⟨0, Nat.zero_le _, rfl, by rw [← Hmp.out]; exact Blk.new _ _ _, (Below.refl _ _).alloc (Nat.le_refl _) _⟩
  case round =>
    obtain ⟨k, hk, rfl, hb, hbel⟩ := hrel
    clear hmk Hmp
    have Hl := Hlen.out
    by_cases hlt : k < n
    · obtain ⟨b, off, rfl, hbB⟩ := h.form (by omega)
      have g0 := (hbel.cell (p := ⟨b, off + k, none⟩) hbB).trans (h.at1 hlt)
      have s0 : wr.cell? ⟨w.heap.size, k, none⟩ = some (I 0) := by rw [hb.cell]; exact fillP_get _ _ _ (by omega) (by omega)
      have f0 : wr.frozen? ⟨w.heap.size, k, none⟩ = false := hb.frozen _
      have Hb := Lib.hid hb
      have Hbel := Lib.hid hbel
      clear hb hbel h Hl
      go_wp2
      go_roundw
      case rel =>
        have Hl2 := Hlen.out
        exact ⟨k + 1, by omega, by go_num, Hb.out.fill (by omega), Hbel.out.setCell (Nat.le_refl _) _⟩
      case measure => simp [intOf]; omega
    · obtain rfl : k = n := by omega
      clear Hl
      go_wp2
      go_ret
      have Hl2 := Hlen.out
      exact ⟨rfl, own_of_blk (by rw [← fillP_all, Hl2]; exact hb) (Nat.le_refl _) (by omega) (by unfold maxLen; omega), hbel⟩

set_option maxHeartbeats 400000 in
theorem eqS_same (A A' : Option Addr) (n c c' : Nat) (zs : List Int) (w : World) (h : IRow w w.heap.size A n 1 zs) (h' : IRow w w.heap.size A' n 1 zs) (hn : n ≤ 1048576) :
    Calls Try.prog 20 #[.slice A n c, .slice A' n c'] w fun e w' => e = .returned (.bool true) ∧ Below w.heap.size w w' := by
  go_enter Try.func20, Try.ntmps20
  go_wp2
  go_loopw [5] (fun i wr => ∃ k : Nat, k ≤ n ∧ i = .int .i64 k ∧ Below w.heap.size w wr) (fun i _ => n - (intOf i).toNat)
  case atStart => exact ⟨0, Nat.zero_le _, rfl, Below.refl _ _⟩
  case round =>
    obtain ⟨k, hk, rfl, hbel⟩ := hrel
    by_cases hlt : k < n
    · obtain ⟨b, off, rfl, hbB⟩ := h.form (by omega)
      obtain ⟨b', off', rfl, hbB'⟩ := h'.form (by omega)
      have g0 := (hbel.cell (p := ⟨b, off + k, none⟩) hbB).trans (h.at1 hlt)
      have g0' := (hbel.cell (p := ⟨b', off' + k, none⟩) hbB').trans (h'.at1 hlt)
      clear h h'
      have Hbel := Lib.hid hbel
      clear hbel
      go_wp2_with fail
      go_still_tail 8, (by kernel_rfl)
      go_wp2
      go_roundw
      case rel =>
        exact ⟨k + 1, by omega, by go_num, Hbel.out.drew⟩
      case measure => simp [intOf]; omega
    · go_wp2
      go_ret
      exact ⟨rfl, hbel⟩

set_option maxHeartbeats 400000 in
theorem markS_any (A : Option Addr) (n c base : Nat) (zs : List Int) (k0 : Int) (w : World) (h : w.ownsRow base 3 1 (.slice A n c) n (zs.map I)) (hk0 : 0 ≤ k0) (hb0 : k0 + n ≤ 1000000000) :
    Calls Try.prog 23 #[.slice A n c, .int .i64 k0] w fun e w' => e = .returned (.int .i64 (k0 + n)) ∧ w'.ownsRow base 3 1 (.slice A n c) n ((seqI k0 n).map I) ∧ w.grownBy w' (Value.slice A n c).ownBlock := by
  rcases h.2 with ⟨hv, h0⟩ | ⟨g, cap, cur, hv, hg, hh, hnc, hm, hsz, htake⟩
  · injection hv with hA _ hc
    subst hA h0 hc
    go_enter Try.func23, Try.ntmps23
    go_wp2
    go_loop [1, 5] (fun q i => q = .int .i64 k0 ∧ i = .int .i64 0) (fun _ _ => 0)
    case atStart => exact ⟨rfl, rfl⟩
    case round =>
      obtain ⟨rfl, rfl⟩ := hrel
      go_wp2
      go_ret
      exact ⟨ret_int (by simp), by simpa [seqI] using World.ownsRow_nil _ _ _ _, grown_refl _ _⟩
  · injection hv with hA _ hc
    subst hA hc
    have H := Lib.hid h
    have Hh := Lib.hid hh
    have Hsz := Lib.hid hsz
    have hsz' : c ≤ cur.size := by omega
    clear h hh hsz htake
    go_enter Try.func23, Try.ntmps23
    go_wp2
    go_loopw [1, 5] (fun q i wr => ∃ k : Nat, k ≤ n ∧ i = .int .i64 k ∧ q = .int .i64 (k0 + (k : Int)) ∧ Blk wr g 3 (markP cur k0 k) ∧ w.grownBy wr (some g)) (fun _ i _ => n - (intOf i).toNat)
    case atStart => exact ⟨0, Nat.zero_le _, rfl, by simp, Hh.out, grown_refl _ _⟩
    case round =>
      obtain ⟨k, hk, rfl, rfl, hb, hgr⟩ := hrel
      have Hb := Lib.hid hb
      have Hgr := Lib.hid hgr
      clear hb hgr
      by_cases hlt : k < n
      · obtain ⟨u0, s0⟩ : ∃ u, wr.cell? ⟨g, k, none⟩ = some u := by rw [Hb.out.cell]; exact markP_some _ _ _ _ (by omega)
        have f0 : wr.frozen? ⟨g, k, none⟩ = false := Hb.out.frozen _
        go_wp2
        go_roundw
        case rel => exact ⟨k + 1, by omega, by go_num, by go_num, Hb.out.mark rfl, grown_setCell Hgr.out _ _⟩
        case measure => simp [intOf]; omega
      · obtain rfl : k = n := by omega
        go_wp2
        go_ret
        refine ⟨ret_int (by omega), ⟨by simp [seqI_length], .inr ⟨g, c, _, rfl, hg, Hb.out, hnc, hm, by rw [markP_size]; exact Hsz.out, ?_⟩⟩, Hgr.out⟩
        rw [Nat.mul_one]
        exact markP_take _ _ _ (by omega)

set_option maxHeartbeats 400000 in
theorem heldS_any (A : Option Addr) (n c : Nat) (k0 : Int) (w : World) (h : IRow w w.heap.size A n 1 (seqI k0 n)) (hk0 : 0 ≤ k0) (hb0 : k0 + n ≤ 1000000000) :
    Calls Try.prog 24 #[.slice A n c, .int .i64 k0] w fun e w' => e = .returned (.int .i64 (k0 + n)) ∧ w = w' := by
  go_enter Try.func24, Try.ntmps24
  go_wp2
  go_loop [1, 5] (fun q i => ∃ k : Nat, k ≤ n ∧ i = .int .i64 k ∧ q = .int .i64 (k0 + (k : Int))) (fun _ i => n - (intOf i).toNat)
  case atStart => exact ⟨0, Nat.zero_le _, rfl, by simp⟩
  case round =>
    obtain ⟨k, hk, rfl, rfl⟩ := hrel
    by_cases hlt : k < n
    · obtain ⟨b, off, rfl, hbB⟩ := h.form (by omega)
      have g0 : w.cell? ⟨b, off + k, none⟩ = some (I (k0 + (k : Int))) := (h.at1 hlt).trans (congrArg (fun z => some (I z)) (seqI_get _ _ _ hlt))
      clear h
      go_wp2
      go_round
      case rel => exact ⟨k + 1, by omega, by go_num, by go_num⟩
      case measure => simp [intOf]; omega
    · obtain rfl : k = n := by omega
      go_wp2
      go_ret
      exact ⟨rfl, rfl⟩
end Go.Proofs.Ytebiefhfhjgmaaa.SInt
