/- The laws' own helpers for Act (5 integer fields): conversions, comparisons, marks. Bounds on lengths alone. -/
import Derived.Test.YtebiefhfhjgmaaaDoorMem
import Derived.Outline
import Derived.StillTailTactics
namespace Go.Proofs.YtebiefhfhjgmaaaDoor.SAct
set_option maxRecDepth 100000
open Go.RowKit Mm

set_option maxHeartbeats 400000 in
theorem to_any (x0 x1 x2 x3 x4 : Int) (w : World) :
    Calls Tryd.prog 27 #[.agg #[.int .i64 x0, .int .i64 x1, .int .i64 x2, .int .i64 x3, .int .i64 x4]] w fun e w' => e = .returned (.agg #[.int .i64 x0, .int .i64 x1, .int .i64 x2, .int .i64 x3, .int .i64 x4]) ∧ Below w.heap.size w w' := by
  go_enter Tryd.func27, Tryd.ntmps27
  go_wp2
  refine bodyPost_ret (v := .agg #[.int .i64 x0, .int .i64 x1, .int .i64 x2, .int .i64 x3, .int .i64 x4]) (by simp [results, Tryd.results27, go_sem]) rfl ⟨rfl, ?_⟩
  go_grown

set_option maxHeartbeats 400000 in
theorem eq_same (x0 x1 x2 x3 x4 : Int) (w : World) :
    Calls Tryd.prog 65 #[.agg #[.int .i64 x0, .int .i64 x1, .int .i64 x2, .int .i64 x3, .int .i64 x4], .agg #[.int .i64 x0, .int .i64 x1, .int .i64 x2, .int .i64 x3, .int .i64 x4]] w fun e w' => e = .returned (.bool true) ∧ Below w.heap.size w w' := by
  go_enter Tryd.func65, Tryd.ntmps65
  go_wp2
  go_ret
  refine ⟨rfl, ?_⟩
  go_grown

theorem info_t : (Tryd.prog.info? 44).map (fun i => (i.zero, i.size, i.bytes)) = some (some (.agg #[I 0, I 0, I 0, I 0, I 0]), 5, 40) := by kernel_rfl
set_option maxHeartbeats 400000 in
theorem toS_any (A : Option Addr) (n c : Nat) (zs : List Int) (w : World) (h : IRow w w.heap.size A n 5 zs) (hn : n ≤ 1048576) :
    Calls Tryd.prog 33 #[.slice A n c] w fun e w' => e = .returned (.slice (some ⟨w.heap.size, 0, none⟩) n n) ∧ w'.ownsRow w.heap.size 44 5 (.slice (some ⟨w.heap.size, 0, none⟩) n n) n (zs.map I) ∧ Below w.heap.size w w' := by
  have hlen := h.1
  have hmp := made_fillP zs n #[I 0, I 0, I 0, I 0, I 0] 5 rfl (by omega) hlen.symm
  have Hmp := Lib.hid hmp
  have Hlen := Lib.hid hlen
  clear hmp hlen
  obtain ⟨i0, hi0, hz0, hz1, hz2⟩ := info_parts info_t
  have hmk := fun W => run_make_rowN (P := Tryd.prog) 52 44 i0 _ Tryd.underlying52 hi0 hz0 .i64 .i64 n n (Nat.le_refl _) (by rw [hz2]; omega) (by omega) W
  rw [hz1] at hmk
  clear hi0 hz0 hz1 hz2
  go_enter Tryd.func33, Tryd.ntmps33
  go_wp2
  go_loopw [4] (fun i wr => ∃ k : Nat, k ≤ n ∧ i = .int .i64 k ∧ Blk wr w.heap.size 44 (fillP zs (k * 5)) ∧ Below w.heap.size w wr) (fun i _ => n - (intOf i).toNat)
  case atStart => exact ⟨0, Nat.zero_le _, rfl, by rw [Hmp.out, Nat.zero_mul]; exact Blk.new _ _ _, (Below.refl _ _).alloc (Nat.le_refl _) _⟩
  case round =>
    obtain ⟨k, hk, rfl, hb, hbel⟩ := hrel
    clear hmk Hmp
    by_cases hlt : k < n
    · obtain ⟨b, off, rfl, hbB⟩ := h.form (by omega)
      have g0 := (hbel.cell (p := ⟨b, off + k * 5, none⟩) hbB).trans (h.at_ hlt (j := 0) (by omega))
      have g1 := (hbel.cell (p := ⟨b, off + k * 5 + 1, none⟩) hbB).trans (h.at_ hlt (j := 1) (by omega))
      have g2 := (hbel.cell (p := ⟨b, off + k * 5 + 2, none⟩) hbB).trans (h.at_ hlt (j := 2) (by omega))
      have g3 := (hbel.cell (p := ⟨b, off + k * 5 + 3, none⟩) hbB).trans (h.at_ hlt (j := 3) (by omega))
      have g4 := (hbel.cell (p := ⟨b, off + k * 5 + 4, none⟩) hbB).trans (h.at_ hlt (j := 4) (by omega))
      clear h
      have Hb := Lib.hid hb
      have Hbel := Lib.hid hbel
      clear hb hbel
      go_wp2_with fail
      refine (to_any _ _ _ _ _ _).mono ?_
      rintro e w1 ⟨rfl, hb1⟩
      have hsz : w.heap.size < wr.heap.size := Hb.out.lt
      have Hb1 : Hid (Blk w1 w.heap.size 44 (fillP zs (k * 5))) := Hb.out.below hb1 hsz
      have Hl := Hlen.out
      have s0 : w1.cell? ⟨w.heap.size, k * 5, none⟩ = some (I 0) := by rw [Hb1.out.cell]; exact fillP_get _ _ _ (by omega) (by omega)
      have s1 : w1.cell? ⟨w.heap.size, k * 5 + 1, none⟩ = some (I 0) := by rw [Hb1.out.cell]; exact fillP_get _ _ _ (by omega) (by omega)
      have s2 : w1.cell? ⟨w.heap.size, k * 5 + 2, none⟩ = some (I 0) := by rw [Hb1.out.cell]; exact fillP_get _ _ _ (by omega) (by omega)
      have s3 : w1.cell? ⟨w.heap.size, k * 5 + 3, none⟩ = some (I 0) := by rw [Hb1.out.cell]; exact fillP_get _ _ _ (by omega) (by omega)
      have s4 : w1.cell? ⟨w.heap.size, k * 5 + 4, none⟩ = some (I 0) := by rw [Hb1.out.cell]; exact fillP_get _ _ _ (by omega) (by omega)
      have f0 : w1.frozen? ⟨w.heap.size, k * 5, none⟩ = false := Hb1.out.frozen _
      have f1 : w1.frozen? ⟨w.heap.size, k * 5 + 1, none⟩ = false := Hb1.out.frozen _
      have f2 : w1.frozen? ⟨w.heap.size, k * 5 + 2, none⟩ = false := Hb1.out.frozen _
      have f3 : w1.frozen? ⟨w.heap.size, k * 5 + 3, none⟩ = false := Hb1.out.frozen _
      have f4 : w1.frozen? ⟨w.heap.size, k * 5 + 4, none⟩ = false := Hb1.out.frozen _
      clear Hl g0 g1 g2 g3 g4
      have Hbb := Lib.hid hb1
      clear hb1
      go_wp2
      go_roundw
      case rel =>
        have Hl2 := Hlen.out
        exact ⟨k + 1, by omega, by go_num, by rw [show (k + 1) * 5 = k * 5 + 5 from by omega]; exact (((((Hb1.out.fill (by omega)).fill (by omega)).fill (by omega)).fill (by omega)).fill (by omega)), ((((((Hbel.out.trans (Hbb.out.mono (Nat.le_of_lt hsz))).setCell (Nat.le_refl _) _).setCell (Nat.le_refl _) _).setCell (Nat.le_refl _) _).setCell (Nat.le_refl _) _).setCell (Nat.le_refl _) _)⟩
      case measure => simp [intOf]; omega
    · obtain rfl : k = n := by omega
      go_wp2
      go_ret
      have Hl2 := Hlen.out
      exact ⟨rfl, own_of_blk (by rw [← fillP_all, Hl2]; exact hb) (Nat.le_refl _) Hl2 (by unfold maxLen; omega), hbel⟩

set_option maxHeartbeats 400000 in
theorem eqS_same (A A' : Option Addr) (n c c' : Nat) (zs : List Int) (w : World) (h : IRow w w.heap.size A n 5 zs) (h' : IRow w w.heap.size A' n 5 zs) (hn : n ≤ 1048576) :
    Calls Tryd.prog 35 #[.slice A n c, .slice A' n c'] w fun e w' => e = .returned (.bool true) ∧ Below w.heap.size w w' := by
  go_enter Tryd.func35, Tryd.ntmps35
  go_wp2
  go_loopw [5] (fun i wr => ∃ k : Nat, k ≤ n ∧ i = .int .i64 k ∧ Below w.heap.size w wr) (fun i _ => n - (intOf i).toNat)
  case atStart => exact ⟨0, Nat.zero_le _, rfl, Below.refl _ _⟩
  case round =>
    obtain ⟨k, hk, rfl, hbel⟩ := hrel
    by_cases hlt : k < n
    · obtain ⟨b, off, rfl, hbB⟩ := h.form (by omega)
      obtain ⟨b', off', rfl, hbB'⟩ := h'.form (by omega)
      have g0 := (hbel.cell (p := ⟨b, off + k * 5, none⟩) hbB).trans (h.at_ hlt (j := 0) (by omega))
      have g1 := (hbel.cell (p := ⟨b, off + k * 5 + 1, none⟩) hbB).trans (h.at_ hlt (j := 1) (by omega))
      have g2 := (hbel.cell (p := ⟨b, off + k * 5 + 2, none⟩) hbB).trans (h.at_ hlt (j := 2) (by omega))
      have g3 := (hbel.cell (p := ⟨b, off + k * 5 + 3, none⟩) hbB).trans (h.at_ hlt (j := 3) (by omega))
      have g4 := (hbel.cell (p := ⟨b, off + k * 5 + 4, none⟩) hbB).trans (h.at_ hlt (j := 4) (by omega))
      have g0' := (hbel.cell (p := ⟨b', off' + k * 5, none⟩) hbB').trans (h'.at_ hlt (j := 0) (by omega))
      have g1' := (hbel.cell (p := ⟨b', off' + k * 5 + 1, none⟩) hbB').trans (h'.at_ hlt (j := 1) (by omega))
      have g2' := (hbel.cell (p := ⟨b', off' + k * 5 + 2, none⟩) hbB').trans (h'.at_ hlt (j := 2) (by omega))
      have g3' := (hbel.cell (p := ⟨b', off' + k * 5 + 3, none⟩) hbB').trans (h'.at_ hlt (j := 3) (by omega))
      have g4' := (hbel.cell (p := ⟨b', off' + k * 5 + 4, none⟩) hbB').trans (h'.at_ hlt (j := 4) (by omega))
      clear h h'
      have Hbel := Lib.hid hbel
      clear hbel
      go_wp2_with fail
      go_still_tail 8, (by kernel_rfl)
      go_wp2_with fail
      refine (eq_same _ _ _ _ _ _).mono ?_
      rintro e w1 ⟨rfl, hb1⟩
      have Hbb := Lib.hid hb1
      clear hb1
      go_wp2
      go_roundw
      case rel =>
        exact ⟨k + 1, by omega, by go_num, Hbel.out.drew.trans (Hbb.out.mono Hbel.out.size)⟩
      case measure => simp [intOf]; omega
    · go_wp2
      go_ret
      exact ⟨rfl, hbel⟩

theorem szS_no (A : Option Addr) (n c : Nat) (l : Int) (w : World) (hl : 0 ≤ l) (hl2 : l ≤ 1048576) (hn : n ≤ maxLen) (hlt : l < n) :
    Calls Tryd.prog 31 #[.slice A n c, .int .i64 l] w fun e w' => e = .returned (.int .i64 (-1)) ∧ w = w' := by
  unfold maxLen at hn
  go_enter Tryd.func31, Tryd.ntmps31
  go_wp2
  go_ret
  exact ⟨rfl, rfl⟩
theorem szS_yes (A : Option Addr) (n c : Nat) (l : Int) (w : World) (hl : (n : Int) ≤ l) (hl2 : l ≤ 1048576) :
    Calls Tryd.prog 31 #[.slice A n c, .int .i64 l] w fun e w' => e = .returned (.int .i64 (l - n)) ∧ w = w' := by
  go_enter Tryd.func31, Tryd.ntmps31
  go_wp2
  go_ret
  exact ⟨rfl, rfl⟩

set_option maxHeartbeats 400000 in
theorem markS_any (A : Option Addr) (n c base : Nat) (zs : List Int) (k0 : Int) (w : World) (h : w.ownsRow base 44 5 (.slice A n c) n (zs.map I)) (hk0 : 0 ≤ k0) (hb0 : k0 + n * 5 ≤ 1000000000) :
    Calls Tryd.prog 38 #[.slice A n c, .int .i64 k0] w fun e w' => e = .returned (.int .i64 (k0 + n * 5)) ∧ w'.ownsRow base 44 5 (.slice A n c) n ((seqI k0 (n * 5)).map I) ∧ w.grownBy w' (Value.slice A n c).ownBlock := by
  rcases h.2 with ⟨hv, h0⟩ | ⟨g, cap, cur, hv, hg, hh, hnc, hm, hsz, htake⟩
  · injection hv with hA _ hc
    subst hA h0 hc
    go_enter Tryd.func38, Tryd.ntmps38
    go_wp2
    go_loop [1, 5] (fun q i => q = .int .i64 k0 ∧ i = .int .i64 0) (fun _ _ => 0)
    case atStart => exact ⟨rfl, rfl⟩
    case round =>
      obtain ⟨rfl, rfl⟩ := hrel
      go_wp2
      go_ret
      exact ⟨ret_int (by simp), by simpa [seqI] using World.ownsRow_nil _ _ _ _, grown_refl _ _⟩
  · injection hv with hA _ hc
    subst hA hc
    have H := Lib.hid h
    have Hh := Lib.hid hh
    have Hsz := Lib.hid hsz
    have hsz' : c * 5 ≤ cur.size := by omega
    clear h hh hsz htake
    go_enter Tryd.func38, Tryd.ntmps38
    go_wp2
    go_loopw [1, 5] (fun q i wr => ∃ k : Nat, k ≤ n ∧ i = .int .i64 k ∧ q = .int .i64 (k0 + 5 * (k : Int)) ∧ Blk wr g 44 (markP cur k0 (k * 5)) ∧ w.grownBy wr (some g)) (fun _ i _ => n - (intOf i).toNat)
    case atStart => exact ⟨0, Nat.zero_le _, rfl, by simp, by rw [Nat.zero_mul]; exact Hh.out, grown_refl _ _⟩
    case round =>
      obtain ⟨k, hk, rfl, rfl, hb, hgr⟩ := hrel
      have Hb := Lib.hid hb
      have Hgr := Lib.hid hgr
      clear hb hgr
      by_cases hlt : k < n
      · obtain ⟨u0, s0⟩ : ∃ u, wr.cell? ⟨g, k * 5, none⟩ = some u := by rw [Hb.out.cell]; exact markP_some _ _ _ _ (by omega)
        obtain ⟨u1, s1⟩ : ∃ u, wr.cell? ⟨g, k * 5 + 1, none⟩ = some u := by rw [Hb.out.cell]; exact markP_some _ _ _ _ (by omega)
        obtain ⟨u2, s2⟩ : ∃ u, wr.cell? ⟨g, k * 5 + 2, none⟩ = some u := by rw [Hb.out.cell]; exact markP_some _ _ _ _ (by omega)
        obtain ⟨u3, s3⟩ : ∃ u, wr.cell? ⟨g, k * 5 + 3, none⟩ = some u := by rw [Hb.out.cell]; exact markP_some _ _ _ _ (by omega)
        obtain ⟨u4, s4⟩ : ∃ u, wr.cell? ⟨g, k * 5 + 4, none⟩ = some u := by rw [Hb.out.cell]; exact markP_some _ _ _ _ (by omega)
        have f0 : wr.frozen? ⟨g, k * 5, none⟩ = false := Hb.out.frozen _
        have f1 : wr.frozen? ⟨g, k * 5 + 1, none⟩ = false := Hb.out.frozen _
        have f2 : wr.frozen? ⟨g, k * 5 + 2, none⟩ = false := Hb.out.frozen _
        have f3 : wr.frozen? ⟨g, k * 5 + 3, none⟩ = false := Hb.out.frozen _
        have f4 : wr.frozen? ⟨g, k * 5 + 4, none⟩ = false := Hb.out.frozen _
        go_wp2
        go_roundw
        case rel => exact ⟨k + 1, by omega, by go_num, by go_num, by rw [show (k + 1) * 5 = k * 5 + 5 from by omega]; exact (((((Hb.out.mark (congrArg I (by omega))).mark (congrArg I (by omega))).mark (congrArg I (by omega))).mark (congrArg I (by omega))).mark (congrArg I (by omega))), (grown_setCell (grown_setCell (grown_setCell (grown_setCell (grown_setCell Hgr.out _ _) _ _) _ _) _ _) _ _)⟩
        case measure => simp [intOf]; omega
      · obtain rfl : k = n := by omega
        go_wp2
        go_ret
        refine ⟨ret_int (by omega), ⟨by simp [seqI_length], .inr ⟨g, c, _, rfl, hg, Hb.out, hnc, hm, by rw [markP_size]; exact Hsz.out, markP_take _ _ _ (by omega)⟩⟩, Hgr.out⟩

set_option maxHeartbeats 400000 in
theorem heldS_any (A : Option Addr) (n c : Nat) (k0 : Int) (w : World) (h : IRow w w.heap.size A n 5 (seqI k0 (n * 5))) (hk0 : 0 ≤ k0) (hb0 : k0 + n * 5 ≤ 1000000000) :
    Calls Tryd.prog 39 #[.slice A n c, .int .i64 k0] w fun e w' => e = .returned (.int .i64 (k0 + n * 5)) ∧ w = w' := by
  go_enter Tryd.func39, Tryd.ntmps39
  go_wp2
  go_loop [1, 5] (fun q i => ∃ k : Nat, k ≤ n ∧ i = .int .i64 k ∧ q = .int .i64 (k0 + 5 * (k : Int))) (fun _ i => n - (intOf i).toNat)
  case atStart => exact ⟨0, Nat.zero_le _, rfl, by simp⟩
  case round =>
    obtain ⟨k, hk, rfl, rfl⟩ := hrel
    by_cases hlt : k < n
    · obtain ⟨b, off, rfl, hbB⟩ := h.form (by omega)
      have g0 : w.cell? ⟨b, off + k * 5, none⟩ = some (I (k0 + 5 * (k : Int))) := (h.at_ hlt (j := 0) (by omega)).trans (congrArg (fun z => some (I z)) ((seqI_get _ _ _ (by omega)).trans (by omega)))
      have g1 : w.cell? ⟨b, off + k * 5 + 1, none⟩ = some (I (k0 + 5 * (k : Int) + 1)) := (h.at_ hlt (j := 1) (by omega)).trans (congrArg (fun z => some (I z)) ((seqI_get _ _ _ (by omega)).trans (by omega)))
      have g2 : w.cell? ⟨b, off + k * 5 + 2, none⟩ = some (I (k0 + 5 * (k : Int) + 2)) := (h.at_ hlt (j := 2) (by omega)).trans (congrArg (fun z => some (I z)) ((seqI_get _ _ _ (by omega)).trans (by omega)))
      have g3 : w.cell? ⟨b, off + k * 5 + 3, none⟩ = some (I (k0 + 5 * (k : Int) + 3)) := (h.at_ hlt (j := 3) (by omega)).trans (congrArg (fun z => some (I z)) ((seqI_get _ _ _ (by omega)).trans (by omega)))
      have g4 : w.cell? ⟨b, off + k * 5 + 4, none⟩ = some (I (k0 + 5 * (k : Int) + 4)) := (h.at_ hlt (j := 4) (by omega)).trans (congrArg (fun z => some (I z)) ((seqI_get _ _ _ (by omega)).trans (by omega)))
      clear h
      go_wp2
      go_round
      case rel => exact ⟨k + 1, by omega, by go_num, by go_num⟩
      case measure => simp [intOf]; omega
    · obtain rfl : k = n := by omega
      go_wp2
      go_ret
      exact ⟨ret_int (by omega), rfl⟩

end Go.Proofs.YtebiefhfhjgmaaaDoor.SAct
