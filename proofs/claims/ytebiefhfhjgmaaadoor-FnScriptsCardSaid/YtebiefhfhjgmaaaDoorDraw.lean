/- The reference's draws: l01New, l01Byte, l01Below, l01PickInt: what they hand back lies in a range; the cursor alone is written. -/
import Derived.Test.YtebiefhfhjgmaaaDoorBits
import Derived.Test.YtebiefhfhjgmaaaDoorMem2
import Derived.Deep.QuietTactic
import Derived.BigQuiet
import Derived.Outline
namespace Go.Proofs.YtebiefhfhjgmaaaDoor.Dr
set_option maxRecDepth 100000
open Go.RowKit Mm Bt

theorem and_mask (x m : Int) (h0 : 0 ≤ m) (h1 : m < 9223372036854775808) : 0 ≤ bits .and .i64 x m ∧ bits .and .i64 x m ≤ m := by
  have hm : (BitVec.ofInt 64 m).toNat = m.toNat := by
    rw [BitVec.toNat_ofInt]
    have : m % (2 ^ 64 : Nat) = m := Int.emod_eq_of_lt h0 (by simp; omega)
    rw [this]
  have hle : (BitVec.ofInt 64 x &&& BitVec.ofInt 64 m).toNat ≤ m.toNat := by
    rw [BitVec.toNat_and, hm]; exact Nat.and_le_right
  have e : bits .and .i64 x m = ((BitVec.ofInt 64 x &&& BitVec.ofInt 64 m).toNat : Int) := by
    show IntKind.i64.wrap ((BitVec.ofInt 64 x &&& BitVec.ofInt 64 m).toNat : Int) = _
    exact wraps_i64 _ (by omega) (by omega)
  rw [e]
  omega
theorem and255 {x y : Int} (h : bits .and .i64 y 255 = x) : 0 ≤ x ∧ x ≤ 255 := by subst h; exact and_mask y 255 (by decide) (by decide)
/-- A slice of n bytes, below block B: the numbers zs. -/
def BRow (w : World) (B : Nat) (A : Option Addr) (n : Nat) (zs : List Int) : Prop :=
  (0 < n → ∃ b off, A = some ⟨b, off, none⟩ ∧ b < B ∧ ∀ j, j < n → w.cell? ⟨b, off + j, none⟩ = some (.int .u8 (gI zs j))) ∧ ∀ j, 0 ≤ gI zs j ∧ gI zs j ≤ 255
section
variable {w w' : World} {B B' n : Nat} {A : Option Addr} {zs : List Int}
theorem BRow.keep (h : BRow w B A n zs) (hk : ∀ p : Addr, p.block < B → w'.cell? p = w.cell? p) : BRow w' B A n zs :=
  ⟨fun hn => by
    obtain ⟨b, off, e, hb, hc⟩ := h.1 hn
    exact ⟨b, off, e, hb, fun j hj => (hk _ hb).trans (hc j hj)⟩, h.2⟩
theorem BRow.below (h : BRow w B A n zs) (hb : Below B w w') : BRow w' B A n zs := h.keep fun _ hp => hb.cell hp
theorem BRow.more (h : BRow w B A n zs) (hB : B ≤ B') : BRow w B' A n zs :=
  ⟨fun hn => by
    obtain ⟨b, off, e, hb, hc⟩ := h.1 hn
    exact ⟨b, off, e, by omega, hc⟩, h.2⟩
theorem BRow.grown (h : BRow w B A n zs) {g : Nat} (hB : B ≤ g) (hs : B ≤ w.heap.size) (hg : w.grownBy w' (some g)) : BRow w' B A n zs :=
  h.keep fun p hp => World.cell?_of_block (hg.block p.block (by omega) (fun e => by injection e with e; omega))
end
/-- The cursor at block g over the slice A. -/
def Cur (w : World) (g : Nat) (A : Option Addr) (n c : Nat) (zs : List Int) : Prop := (∃ i : Nat, ∃ h : Int, i ≤ n ∧ Blk w g 103 #[.slice A n c, I (i : Int), I h]) ∧ BRow w g A n zs ∧ n ≤ 1048576
theorem Cur.lt {w : World} {g : Nat} {A : Option Addr} {n c : Nat} {zs : List Int} (h : Cur w g A n c zs) : g < w.heap.size := by
  obtain ⟨⟨i, h, _, hb⟩, _⟩ := h
  exact hb.lt
theorem Cur.below {w w' : World} {g : Nat} {A : Option Addr} {n c : Nat} {zs : List Int} (h : Cur w g A n c zs) (hb : Below w.heap.size w w') : Cur w' g A n c zs := by
  have hl := h.lt
  obtain ⟨⟨i, x, hi, hk⟩, hr, hn⟩ := h
  exact ⟨⟨i, x, hi, hk.below hb hl⟩, hr.below (hb.mono (by omega)), hn⟩
/-- A number in the range lo to hi was drawn. -/
def Drawn (lo hi : Int) (g : Nat) (A : Option Addr) (n c : Nat) (zs : List Int) (w : World) (e : Ending) (w' : World) : Prop :=
  ∃ x : Int, lo ≤ x ∧ x ≤ hi ∧ e = .returned (I x) ∧ Cur w' g A n c zs ∧ w.grownBy w' (some g)
theorem grown_tr {a b c : World} {row : Option Nat} (h : a.grownBy b row) (k : b.grownBy c row) : a.grownBy c row :=
  ⟨k.os.trans h.os, k.tape.trans h.tape, k.output.trans h.output, Nat.le_trans h.size k.size, fun i hi hne => (k.block i (Nat.lt_of_lt_of_le hi h.size) hne).trans (h.block i hi hne)⟩
theorem grown_drewN {a w : World} {row : Option Nat} (h : a.grownBy w row) (n : Nat) : a.grownBy (w.drewN n) row := grown_tr h (grown_of_below (below_drewN (Below.refl _ _) n) row)
theorem blk_drewN {w : World} {g : Nat} {t : TypeId} {cs : Array Value} (h : Blk w g t cs) (n : Nat) : Blk (w.drewN n) g t cs := h

set_option maxHeartbeats 1000000 in
theorem byte_any (g : Nat) (A : Option Addr) (n c : Nat) (zs : List Int) (w : World) (h : Cur w g A n c zs) :
    Calls Tryd.prog 77 #[.pointer (some ⟨g, 0, none⟩)] w (Drawn 0 255 g A n c zs w) := by
  obtain ⟨⟨i, h, hi, hk⟩, hr, hn⟩ := h
  have hgl := hk.lt
  have hr' := hr
  have c0 : w.cell? ⟨g, 0, none⟩ = some (.slice A n c) := hk.cell 0
  have c1 : w.cell? ⟨g, 1, none⟩ = some (I (i : Int)) := hk.cell 1
  have c2 : w.cell? ⟨g, 2, none⟩ = some (I h) := hk.cell 2
  have f1 : w.frozen? ⟨g, 1, none⟩ = false := hk.frozen 1
  have f2 : w.frozen? ⟨g, 2, none⟩ = false := hk.frozen 2
  have Hk := Lib.hid hk
  have Hr := Lib.hid hr
  clear hk hr
  by_cases hlt : i < n
  · obtain ⟨b, off, rfl, hbB, hcell⟩ := hr'.1 (by omega)
    have d0 := hcell i hlt
    have e0 := (hr'.2 i).1
    have e1 := (hr'.2 i).2
    have i1 : (i : Int) < (n : Int) := by omega
    have i0 : (0 : Int) ≤ (i : Int) := by omega
    clear hcell hr' hlt
    go_enter Tryd.func77, Tryd.ntmps77
    go_wp2_with fail
    go_quiet (fail)
    generalize hx : bits .and .i64 _ 255 = x
    obtain ⟨hx0, hx1⟩ := and255 hx
    clear hx
    go_wp2_with fail
    go_quiet (fail)
    go_wp2_with fail
    go_quiet (fail)
    generalize hy : bits .and .i64 _ 255 = y
    obtain ⟨hy0, hy1⟩ := and255 hy
    clear hy
    go_wp2
    go_ret
    rename_i nq1 nq2
    have hgw := grown_setCell (grown_drewN (grown_setCell (grown_refl w (some g)) 2 (I (wrap64 (wrap64 (h * 6364136223846793005) + 1442695040888963407)))) (nq1 + nq2 + nq)) 1 (I ((i : Int) + 1))
    exact ⟨_, hy0, hy1, rfl, ⟨⟨i + 1, wrap64 (wrap64 (h * 6364136223846793005) + 1442695040888963407), by omega, (blk_drewN (Hk.out.set_ 2 _) _).set_ 1 _⟩, Hr.out.grown (Nat.le_refl _) (by omega) hgw, hn⟩, hgw⟩
  · obtain rfl : i = n := by omega
    clear hr'
    go_enter Tryd.func77, Tryd.ntmps77
    go_wp2_with fail
    go_quiet (fail)
    generalize hx : bits .and .i64 _ 255 = x
    obtain ⟨hx0, hx1⟩ := and255 hx
    clear hx
    go_wp2_with fail
    go_quiet (fail)
    go_wp2
    go_ret
    rename_i nq1
    have hgw := grown_drewN (grown_drewN (grown_setCell (grown_refl w (some g)) 2 (I (wrap64 (wrap64 (h * 6364136223846793005) + 1442695040888963407)))) nq1) nq
    exact ⟨_, hx0, hx1, rfl, ⟨⟨i, wrap64 (wrap64 (h * 6364136223846793005) + 1442695040888963407), by omega, blk_drewN (blk_drewN (Hk.out.set_ 2 _) nq1) nq⟩, Hr.out.grown (Nat.le_refl _) (by omega) hgw, hn⟩, hgw⟩
theorem drawn_mk {lo hi : Int} {g : Nat} {A : Option Addr} {n c : Nat} {zs : List Int} {w w' : World} {x : Int} (h0 : lo ≤ x) (h1 : x ≤ hi) (hc : Cur w' g A n c zs) (hg : w.grownBy w' (some g)) : Drawn lo hi g A n c zs w (.returned (I x)) w' := ⟨x, h0, h1, rfl, hc, hg⟩
theorem mod_bd (x m : Int) (hm : 1 ≤ m) : 0 ≤ x % m ∧ x % m ≤ m - 1 := ⟨Int.emod_nonneg _ (by omega), by have := Int.emod_lt_of_pos x (show 0 < m by omega); omega⟩
set_option maxHeartbeats 1000000 in
theorem below_any (m : Int) (h1 : 1 ≤ m) (h2 : m ≤ 1000000000) (g : Nat) (A : Option Addr) (n c : Nat) (zs : List Int) (w : World) (h : Cur w g A n c zs) :
    Calls Tryd.prog 48 #[.pointer (some ⟨g, 0, none⟩), .int .i64 m] w (Drawn 0 (m - 1) g A n c zs w) := by
  by_cases hs : m ≤ 256
  · go_enter Tryd.func48, Tryd.ntmps48
    go_wp2_with fail
    refine (byte_any g A n c zs _ h).mono ?_
    rintro e w1 ⟨x, hx0, hx1, rfl, hc, hg⟩
    have hb := mod_bd x m h1
    have Hb := Lib.hid hb
    have Hc := Lib.hid hc
    have Hg := Lib.hid hg
    clear hb hc hg h
    go_wp2
    go_ret
    exact drawn_mk Hb.out.1 Hb.out.2 Hc.out Hg.out
  · have hs' : 256 < m := by omega
    clear hs
    go_enter Tryd.func48, Tryd.ntmps48
    go_wp2_with fail
    refine (byte_any g A n c zs _ h).mono ?_
    rintro e w1 ⟨x, hx0, hx1, rfl, hc, hg⟩
    clear h
    have Hg1 := Lib.hid hg
    clear hg
    go_wp2_with fail
    refine (byte_any g A n c zs _ hc).mono ?_
    rintro e w2 ⟨y, hy0, hy1, rfl, hc2, hg⟩
    clear hc
    have Hg2 := Lib.hid (grown_tr Hg1.out hg)
    clear hg Hg1
    go_wp2_with fail
    refine (byte_any g A n c zs _ hc2).mono ?_
    rintro e w3 ⟨z, hz0, hz1, rfl, hc3, hg⟩
    clear hc2
    have Hg3 := Lib.hid (grown_tr Hg2.out hg)
    clear hg Hg2
    go_wp2_with fail
    refine (byte_any g A n c zs _ hc3).mono ?_
    rintro e w4 ⟨v, hv0, hv1, rfl, hc4, hg⟩
    clear hc3
    have Hg4 := Lib.hid (grown_tr Hg3.out hg)
    have Hc4 := Lib.hid hc4
    have hb := mod_bd (x * 16777216 + y * 65536 + z * 256 + v) m h1
    have Hb := Lib.hid hb
    clear hg Hg3 hc4 hb
    go_wp2
    go_ret
    exact drawn_mk Hb.out.1 Hb.out.2 Hc4.out Hg4.out
/-- One of the numbers zl was drawn. -/
def Picked (zl : List Int) (g : Nat) (A : Option Addr) (n c : Nat) (zs : List Int) (w : World) (e : Ending) (w' : World) : Prop :=
  ∃ k : Nat, k < zl.length ∧ e = .returned (I (gI zl k)) ∧ Cur w' g A n c zs ∧ w.grownBy w' (some g)
set_option maxHeartbeats 1000000 in
theorem pick_any (zl : List Int) (m gl : Nat) (t : TypeId) (hm : m = zl.length) (hm1 : 1 ≤ m) (hm2 : m ≤ 1000) (g : Nat) (A : Option Addr) (n c cl : Nat) (zs : List Int) (w : World) (h : Cur w g A n c zs) (hl : Blk w gl t (zl.map I).toArray) (hne : gl ≠ g) :
    Calls Tryd.prog 49 #[.pointer (some ⟨g, 0, none⟩), .slice (some ⟨gl, 0, none⟩) m cl] w (Picked zl g A n c zs w) := by
  have Hm := Lib.hid hm
  have Hne := Lib.hid hne
  have Hl := Lib.hid hl
  clear hm hne hl
  go_enter Tryd.func49, Tryd.ntmps49
  go_wp2_with fail
  refine (below_any (m : Int) (by omega) (by omega) g A n c zs _ h).mono ?_
  rintro e w1 ⟨x, hx0, hx1, rfl, hc, hg⟩
  obtain ⟨k, rfl⟩ : ∃ k : Nat, x = (k : Int) := ⟨x.toNat, by omega⟩
  have hkl : k < m := by omega
  have hb1 : w1.heap[gl]? = w.heap[gl]? := hg.block gl Hl.out.lt (by intro e; injection e with e; exact Hne.out e)
  have hl1 : Blk w1 gl t (zl.map I).toArray := hb1.trans Hl.out
  have hcl : w1.cell? ⟨gl, k, none⟩ = some (I (gI zl k)) := by
    rw [hl1.cell]
    have hz : k < zl.length := by have := Hm.out; omega
    simp [hz, gI, List.getD]
  have Hk : Hid (k < zl.length) := by show _ < _; have := Hm.out; omega
  have Hc := Lib.hid hc
  have Hg := Lib.hid hg
  clear hb1 hl1 hc hg h
  go_wp2
  go_ret
  exact ⟨k, Hk.out, rfl, Hc.out, Hg.out⟩
/-- A cursor was made. -/
def Made (A : Option Addr) (n c : Nat) (zs : List Int) (w : World) (e : Ending) (w' : World) : Prop :=
  e = .returned (.pointer (some ⟨w.heap.size, 0, none⟩)) ∧ Cur w' w.heap.size A n c zs ∧ Below w.heap.size w w'
set_option maxHeartbeats 1000000 in
theorem new_any (A : Option Addr) (n c : Nat) (zs : List Int) (w : World) (hr : BRow w w.heap.size A n zs) (hn : n ≤ 1048576) :
    Calls Tryd.prog 47 #[.slice A n c] w (Made A n c zs w) := by
  have Hr := Lib.hid hr
  go_enter Tryd.func47, Tryd.ntmps47
  go_wp2
  go_loop [3, 4] (fun q i => ∃ (k : Nat) (h : Int), k ≤ n ∧ k ≤ 4000 ∧ i = .int .i64 k ∧ q = I h ∧ 0 ≤ h ∧ h ≤ 1200000000) (fun _ i => 4000 - (intOf i).toNat)
  case atStart => exact ⟨0, _, Nat.zero_le _, by omega, rfl, rfl, by omega, by omega⟩
  case round =>
    obtain ⟨k, h, hk, hk4, rfl, rfl, h0, h1⟩ := hrel
    by_cases hlt : k < n ∧ k < 4000
    · obtain ⟨hl1, hl2⟩ := hlt
      obtain ⟨b, off, rfl, hbB, hcell⟩ := hr.1 (by omega)
      have d0 := hcell k hl1
      have e0 := (hr.2 k).1
      have e1 := (hr.2 k).2
      have i1 : (k : Int) < (n : Int) := by omega
      have i2 : (k : Int) < 4000 := by omega
      clear hcell hr
      have hm := and_mask (h * 131 + gI zs k + 7) 1073741823 (by decide) (by decide)
      generalize hy : bits .and .i64 (h * 131 + gI zs k + 7) 1073741823 = y at hm
      have hm0 := hm.1
      have hm1 := hm.2
      clear hm
      go_wp2
      go_round
      case rel => exact ⟨k + 1, y, by omega, by omega, by go_num, rfl, hm0, by omega⟩
      case measure => simp [intOf]; omega
    · clear hr
      have hcur : Cur (w.alloc (.cells #[.slice A n c, I ((0 : Nat) : Int), I h] 103)) w.heap.size A n c zs :=
        ⟨⟨0, h, Nat.zero_le _, Blk.new _ _ _⟩, Hr.out.below ((Below.refl _ _).alloc (Nat.le_refl _) _), hn⟩
      have Hcur := Lib.hid hcur
      clear hcur
      by_cases hl1 : k < n
      · have i1 : (k : Int) < (n : Int) := by omega
        have i2 : decide ((k : Int) < 4000) = false := decide_eq_false (by omega)
        clear hlt hl1
        go_wp2
        go_ret
        exact ⟨rfl, Hcur.out, by go_grown⟩
      · have i2 : decide ((k : Int) < (n : Int)) = false := decide_eq_false (by omega)
        have i3 : decide (k < n) = false := decide_eq_false (by omega)
        clear hlt hl1
        go_wp2
        go_ret
        exact ⟨rfl, Hcur.out, by go_grown⟩
end Go.Proofs.YtebiefhfhjgmaaaDoor.Dr
