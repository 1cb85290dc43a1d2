/- FormatBitmap of both sides: the text of a slot map. -/
import Derived.Test.YtifeilefdakapaaGreatDoorKPSpan
namespace Go.Proofs.YtifeilefdakapaaGreatDoor.Bt
open Go.RowKit Mm
set_option maxRecDepth 8000

/-- The text of a slot map. -/
def bmText (n : Nat) (b : Int) : List UInt8 := (List.range n).map fun (i : Nat) => if hasS b (i : Int) then 120 else 46
/-- v is the text of the first k slots. -/
def TxAt (b : Int) (k : Nat) (v : Value) : Prop := v = .string ⟨(bmText k b).toArray⟩
theorem bmText_zero (b : Int) : bmText 0 b = [] := rfl
theorem bmText_yes {n : Nat} {b : Int} (h : hasS b (n : Int) = true) : bmText (n + 1) b = bmText n b ++ [120] := by
  unfold bmText; rw [List.range_succ, List.map_append]; simp [h]
theorem bmText_no {n : Nat} {b : Int} (h : hasS b (n : Int) = false) : bmText (n + 1) b = bmText n b ++ [46] := by
  unfold bmText; rw [List.range_succ, List.map_append]; simp [h]
theorem bmText_len (n : Nat) (b : Int) : (bmText n b).length = n := by simp [bmText]
abbrev B8 (c : UInt8) : Value := .int .u8 (c.toNat : Int)
theorem info_b : (Tryz.prog.info? 5).map (fun i => (i.zero, i.size, i.bytes)) = some (some (.int .u8 0), 1, 1) := by kernel_rfl
theorem own_conv {w : World} {base c : Nat} {A : Option Addr} {l : List UInt8} (h : w.ownsRow base 5 1 (.slice A l.length c) l.length (l.map B8)) :
    (convert 22 9 (.slice A l.length c)).run Tryz.prog w = .ok (.string ⟨l.toArray⟩) w := by
  rcases h.2 with ⟨hv, h0⟩ | ⟨g, cap, cur, hv, _⟩
  · injection hv with hA _ hc
    subst hA hc
    obtain rfl : l = [] := List.eq_nil_of_length_eq_zero h0
    rw [run_convert_bytes_string w _ _ 5 none _ _ Tryz.underlying22 Tryz.underlying5 Tryz.underlying9]
    rfl
  · injection hv with hA _ _
    subst hA
    have hc : ∀ j (hj : j < l.length), w.cell? ((⟨g, 0, none⟩ : Addr).add j) = some (.int .u8 (l[j].toNat : Int)) := fun j hj =>
      h.cells (g := g) rfl j _ (by rw [List.getElem?_map, List.getElem?_eq_getElem hj]; rfl)
    exact run_convert_bytes_back (P := Tryz.prog) w 22 9 5 ⟨g, 0, none⟩ c l Tryz.underlying22 Tryz.underlying5 Tryz.underlying9 hc
theorem ret_str {a b : ByteArray} (h : a = b) : Ending.returned (.string a) = .returned (.string b) := by rw [h]
theorem bsz {l : List UInt8} : (⟨l.toArray⟩ : ByteArray).size = l.length := rfl
set_option maxHeartbeats 1000000 in
set_option maxHeartbeats 1000000 in
theorem fb2_impl (b : Int) (w : World) (h0 : 0 ≤ b) (h1 : b ≤ 3) :
    Calls Tryz.prog 27 #[.int .i64 2, .int .i64 b] w fun e w' => e = .returned (.string ⟨(bmText 2 b).toArray⟩) ∧ Below w.heap.size w w' := by
  have q := btw_yes h0 h1
  obtain ⟨i0, hi0, hz0, hz1, hz2⟩ := info_parts info_b
  go_enter Tryz.func27, Tryz.ntmps27
  go_wp2_with (first | (go_at_call 58; (refine (bm2_impl _ _).mono ?_; rintro e w' ⟨rfl, rfl⟩)) | fail)
  go_loopw [5, 6] (fun v i wr => ∃ k : Nat, k ≤ 2 ∧ i = .int .i64 k ∧ wr.ownsRow w.heap.size 5 1 v k ((bmText k b).map B8) ∧ Below w.heap.size w wr) (fun _ i _ => 2 - (intOf i).toNat)
  case atStart => exact ⟨0, by omega, rfl, World.ownsRow_made _ _ _ (Nat.le_refl _) (Nat.zero_le _) rfl, by go_grown⟩
  case round =>
    obtain ⟨k, hk, rfl, hown, hbel⟩ := hrel
    obtain ⟨A, c, rfl⟩ := own_form hown
    have Hown := Lib.hid hown
    have Hbel := Lib.hid hbel
    have hsz := hbel.size
    clear hown hbel
    by_cases hlt : k < 2
    · rcases hs : hasS b (k : Int) with _ | _
      · have Hs := Lib.hid hs
        go_wp2_with (first | (go_at_call 55; (refine (has_impl _ _ _ (by omega)).mono ?_; rintro e w' ⟨rfl, rfl⟩)) | (at_builtin; refine wpList_append_own _ rfl (.tmp 23) (.tmp 24) 22 rfl w.heap.size 5 i0 _ 1 1 Tryz.underlying22 hi0 hz0 hz1 hz2 rfl (by omega) _ _ _ rfl (Hown.out.alloc _) ⟨wr.heap.size, 0, none⟩ 1 1 [B8 46] rfl rfl ?c1 ?c2 ?c3 ?c4 ?c5 ?_))
        case c1 => exact cells_new wr #[B8 46] _
        case c2 => intro u hu; simp at hu; subst hu; rfl
        case c3 => unfold maxLen; omega
        case c4 => omega
        case c5 => simp; omega
        intro v2 w2 hown2 hgr2 _
        have Hown2 : Hid (w2.ownsRow w.heap.size 5 1 v2 (k + 1) ((bmText (k + 1) b).map B8)) := by rw [bmText_no Hs.out, List.map_append]; exact hown2
        have Hbel2 := Lib.hid (below_own (Hbel.out.alloc hsz _) (Hown.out.alloc _) hgr2 (Nat.le_refl _))
        clear hown2 hgr2 Hown Hbel hs
        go_wp2
        go_roundw
        case rel => exact ⟨k + 1, by omega, by go_num, Hown2.out, Hbel2.out⟩
        case measure => simp [intOf]; omega
      · have Hs := Lib.hid hs
        go_wp2_with (first | (go_at_call 55; (refine (has_impl _ _ _ (by omega)).mono ?_; rintro e w' ⟨rfl, rfl⟩)) | (at_builtin; refine wpList_append_own _ rfl (.tmp 20) (.tmp 21) 22 rfl w.heap.size 5 i0 _ 1 1 Tryz.underlying22 hi0 hz0 hz1 hz2 rfl (by omega) _ _ _ rfl (Hown.out.alloc _) ⟨wr.heap.size, 0, none⟩ 1 1 [B8 120] rfl rfl ?d1 ?d2 ?d3 ?d4 ?d5 ?_))
        case d1 => exact cells_new wr #[B8 120] _
        case d2 => intro u hu; simp at hu; subst hu; rfl
        case d3 => unfold maxLen; omega
        case d4 => omega
        case d5 => simp; omega
        intro v2 w2 hown2 hgr2 _
        have Hown2 : Hid (w2.ownsRow w.heap.size 5 1 v2 (k + 1) ((bmText (k + 1) b).map B8)) := by rw [bmText_yes Hs.out, List.map_append]; exact hown2
        have Hbel2 := Lib.hid (below_own (Hbel.out.alloc hsz _) (Hown.out.alloc _) hgr2 (Nat.le_refl _))
        clear hown2 hgr2 Hown Hbel hs
        go_wp2
        go_roundw
        case rel => exact ⟨k + 1, by omega, by go_num, Hown2.out, Hbel2.out⟩
        case measure => simp [intOf]; omega
    · obtain rfl : k = 2 := by omega
      have hl := bmText_len 2 b
      have hcv := own_conv (l := bmText 2 b) (w := wr) (base := w.heap.size) (A := A) (c := c) (by rw [hl]; exact Hown.out)
      rw [hl] at hcv
      clear hl
      go_wp2
      go_ret
      exact ⟨rfl, Hbel.out⟩
set_option maxHeartbeats 1000000 in
set_option maxHeartbeats 1000000 in
theorem fb4_impl (b : Int) (w : World) (h0 : 0 ≤ b) (h1 : b ≤ 15) :
    Calls Tryz.prog 27 #[.int .i64 4, .int .i64 b] w fun e w' => e = .returned (.string ⟨(bmText 4 b).toArray⟩) ∧ Below w.heap.size w w' := by
  have q := btw_yes h0 h1
  obtain ⟨i0, hi0, hz0, hz1, hz2⟩ := info_parts info_b
  go_enter Tryz.func27, Tryz.ntmps27
  go_wp2_with (first | (go_at_call 58; (refine (bm4_impl _ _).mono ?_; rintro e w' ⟨rfl, rfl⟩)) | fail)
  go_loopw [5, 6] (fun v i wr => ∃ k : Nat, k ≤ 4 ∧ i = .int .i64 k ∧ wr.ownsRow w.heap.size 5 1 v k ((bmText k b).map B8) ∧ Below w.heap.size w wr) (fun _ i _ => 4 - (intOf i).toNat)
  case atStart => exact ⟨0, by omega, rfl, World.ownsRow_made _ _ _ (Nat.le_refl _) (Nat.zero_le _) rfl, by go_grown⟩
  case round =>
    obtain ⟨k, hk, rfl, hown, hbel⟩ := hrel
    obtain ⟨A, c, rfl⟩ := own_form hown
    have Hown := Lib.hid hown
    have Hbel := Lib.hid hbel
    have hsz := hbel.size
    clear hown hbel
    by_cases hlt : k < 4
    · rcases hs : hasS b (k : Int) with _ | _
      · have Hs := Lib.hid hs
        go_wp2_with (first | (go_at_call 55; (refine (has_impl _ _ _ (by omega)).mono ?_; rintro e w' ⟨rfl, rfl⟩)) | (at_builtin; refine wpList_append_own _ rfl (.tmp 23) (.tmp 24) 22 rfl w.heap.size 5 i0 _ 1 1 Tryz.underlying22 hi0 hz0 hz1 hz2 rfl (by omega) _ _ _ rfl (Hown.out.alloc _) ⟨wr.heap.size, 0, none⟩ 1 1 [B8 46] rfl rfl ?c1 ?c2 ?c3 ?c4 ?c5 ?_))
        case c1 => exact cells_new wr #[B8 46] _
        case c2 => intro u hu; simp at hu; subst hu; rfl
        case c3 => unfold maxLen; omega
        case c4 => omega
        case c5 => simp; omega
        intro v2 w2 hown2 hgr2 _
        have Hown2 : Hid (w2.ownsRow w.heap.size 5 1 v2 (k + 1) ((bmText (k + 1) b).map B8)) := by rw [bmText_no Hs.out, List.map_append]; exact hown2
        have Hbel2 := Lib.hid (below_own (Hbel.out.alloc hsz _) (Hown.out.alloc _) hgr2 (Nat.le_refl _))
        clear hown2 hgr2 Hown Hbel hs
        go_wp2
        go_roundw
        case rel => exact ⟨k + 1, by omega, by go_num, Hown2.out, Hbel2.out⟩
        case measure => simp [intOf]; omega
      · have Hs := Lib.hid hs
        go_wp2_with (first | (go_at_call 55; (refine (has_impl _ _ _ (by omega)).mono ?_; rintro e w' ⟨rfl, rfl⟩)) | (at_builtin; refine wpList_append_own _ rfl (.tmp 20) (.tmp 21) 22 rfl w.heap.size 5 i0 _ 1 1 Tryz.underlying22 hi0 hz0 hz1 hz2 rfl (by omega) _ _ _ rfl (Hown.out.alloc _) ⟨wr.heap.size, 0, none⟩ 1 1 [B8 120] rfl rfl ?d1 ?d2 ?d3 ?d4 ?d5 ?_))
        case d1 => exact cells_new wr #[B8 120] _
        case d2 => intro u hu; simp at hu; subst hu; rfl
        case d3 => unfold maxLen; omega
        case d4 => omega
        case d5 => simp; omega
        intro v2 w2 hown2 hgr2 _
        have Hown2 : Hid (w2.ownsRow w.heap.size 5 1 v2 (k + 1) ((bmText (k + 1) b).map B8)) := by rw [bmText_yes Hs.out, List.map_append]; exact hown2
        have Hbel2 := Lib.hid (below_own (Hbel.out.alloc hsz _) (Hown.out.alloc _) hgr2 (Nat.le_refl _))
        clear hown2 hgr2 Hown Hbel hs
        go_wp2
        go_roundw
        case rel => exact ⟨k + 1, by omega, by go_num, Hown2.out, Hbel2.out⟩
        case measure => simp [intOf]; omega
    · obtain rfl : k = 4 := by omega
      have hl := bmText_len 4 b
      have hcv := own_conv (l := bmText 4 b) (w := wr) (base := w.heap.size) (A := A) (c := c) (by rw [hl]; exact Hown.out)
      rw [hl] at hcv
      clear hl
      go_wp2
      go_ret
      exact ⟨rfl, Hbel.out⟩
set_option maxHeartbeats 1000000 in
set_option maxHeartbeats 1000000 in
theorem fb8_impl (b : Int) (w : World) (h0 : 0 ≤ b) (h1 : b ≤ 255) :
    Calls Tryz.prog 27 #[.int .i64 8, .int .i64 b] w fun e w' => e = .returned (.string ⟨(bmText 8 b).toArray⟩) ∧ Below w.heap.size w w' := by
  have q := btw_yes h0 h1
  obtain ⟨i0, hi0, hz0, hz1, hz2⟩ := info_parts info_b
  go_enter Tryz.func27, Tryz.ntmps27
  go_wp2_with (first | (go_at_call 58; (refine (bm8_impl _ _).mono ?_; rintro e w' ⟨rfl, rfl⟩)) | fail)
  go_loopw [5, 6] (fun v i wr => ∃ k : Nat, k ≤ 8 ∧ i = .int .i64 k ∧ wr.ownsRow w.heap.size 5 1 v k ((bmText k b).map B8) ∧ Below w.heap.size w wr) (fun _ i _ => 8 - (intOf i).toNat)
  case atStart => exact ⟨0, by omega, rfl, World.ownsRow_made _ _ _ (Nat.le_refl _) (Nat.zero_le _) rfl, by go_grown⟩
  case round =>
    obtain ⟨k, hk, rfl, hown, hbel⟩ := hrel
    obtain ⟨A, c, rfl⟩ := own_form hown
    have Hown := Lib.hid hown
    have Hbel := Lib.hid hbel
    have hsz := hbel.size
    clear hown hbel
    by_cases hlt : k < 8
    · rcases hs : hasS b (k : Int) with _ | _
      · have Hs := Lib.hid hs
        go_wp2_with (first | (go_at_call 55; (refine (has_impl _ _ _ (by omega)).mono ?_; rintro e w' ⟨rfl, rfl⟩)) | (at_builtin; refine wpList_append_own _ rfl (.tmp 23) (.tmp 24) 22 rfl w.heap.size 5 i0 _ 1 1 Tryz.underlying22 hi0 hz0 hz1 hz2 rfl (by omega) _ _ _ rfl (Hown.out.alloc _) ⟨wr.heap.size, 0, none⟩ 1 1 [B8 46] rfl rfl ?c1 ?c2 ?c3 ?c4 ?c5 ?_))
        case c1 => exact cells_new wr #[B8 46] _
        case c2 => intro u hu; simp at hu; subst hu; rfl
        case c3 => unfold maxLen; omega
        case c4 => omega
        case c5 => simp; omega
        intro v2 w2 hown2 hgr2 _
        have Hown2 : Hid (w2.ownsRow w.heap.size 5 1 v2 (k + 1) ((bmText (k + 1) b).map B8)) := by rw [bmText_no Hs.out, List.map_append]; exact hown2
        have Hbel2 := Lib.hid (below_own (Hbel.out.alloc hsz _) (Hown.out.alloc _) hgr2 (Nat.le_refl _))
        clear hown2 hgr2 Hown Hbel hs
        go_wp2
        go_roundw
        case rel => exact ⟨k + 1, by omega, by go_num, Hown2.out, Hbel2.out⟩
        case measure => simp [intOf]; omega
      · have Hs := Lib.hid hs
        go_wp2_with (first | (go_at_call 55; (refine (has_impl _ _ _ (by omega)).mono ?_; rintro e w' ⟨rfl, rfl⟩)) | (at_builtin; refine wpList_append_own _ rfl (.tmp 20) (.tmp 21) 22 rfl w.heap.size 5 i0 _ 1 1 Tryz.underlying22 hi0 hz0 hz1 hz2 rfl (by omega) _ _ _ rfl (Hown.out.alloc _) ⟨wr.heap.size, 0, none⟩ 1 1 [B8 120] rfl rfl ?d1 ?d2 ?d3 ?d4 ?d5 ?_))
        case d1 => exact cells_new wr #[B8 120] _
        case d2 => intro u hu; simp at hu; subst hu; rfl
        case d3 => unfold maxLen; omega
        case d4 => omega
        case d5 => simp; omega
        intro v2 w2 hown2 hgr2 _
        have Hown2 : Hid (w2.ownsRow w.heap.size 5 1 v2 (k + 1) ((bmText (k + 1) b).map B8)) := by rw [bmText_yes Hs.out, List.map_append]; exact hown2
        have Hbel2 := Lib.hid (below_own (Hbel.out.alloc hsz _) (Hown.out.alloc _) hgr2 (Nat.le_refl _))
        clear hown2 hgr2 Hown Hbel hs
        go_wp2
        go_roundw
        case rel => exact ⟨k + 1, by omega, by go_num, Hown2.out, Hbel2.out⟩
        case measure => simp [intOf]; omega
    · obtain rfl : k = 8 := by omega
      have hl := bmText_len 8 b
      have hcv := own_conv (l := bmText 8 b) (w := wr) (base := w.heap.size) (A := A) (c := c) (by rw [hl]; exact Hown.out)
      rw [hl] at hcv
      clear hl
      go_wp2
      go_ret
      exact ⟨rfl, Hbel.out⟩
set_option maxHeartbeats 1000000 in
set_option maxHeartbeats 1000000 in
theorem fb16_impl (b : Int) (w : World) (h0 : 0 ≤ b) (h1 : b ≤ 65535) :
    Calls Tryz.prog 27 #[.int .i64 16, .int .i64 b] w fun e w' => e = .returned (.string ⟨(bmText 16 b).toArray⟩) ∧ Below w.heap.size w w' := by
  have q := btw_yes h0 h1
  obtain ⟨i0, hi0, hz0, hz1, hz2⟩ := info_parts info_b
  go_enter Tryz.func27, Tryz.ntmps27
  go_wp2_with (first | (go_at_call 58; (refine (bm16_impl _ _).mono ?_; rintro e w' ⟨rfl, rfl⟩)) | fail)
  go_loopw [5, 6] (fun v i wr => ∃ k : Nat, k ≤ 16 ∧ i = .int .i64 k ∧ wr.ownsRow w.heap.size 5 1 v k ((bmText k b).map B8) ∧ Below w.heap.size w wr) (fun _ i _ => 16 - (intOf i).toNat)
  case atStart => exact ⟨0, by omega, rfl, World.ownsRow_made _ _ _ (Nat.le_refl _) (Nat.zero_le _) rfl, by go_grown⟩
  case round =>
    obtain ⟨k, hk, rfl, hown, hbel⟩ := hrel
    obtain ⟨A, c, rfl⟩ := own_form hown
    have Hown := Lib.hid hown
    have Hbel := Lib.hid hbel
    have hsz := hbel.size
    clear hown hbel
    by_cases hlt : k < 16
    · rcases hs : hasS b (k : Int) with _ | _
      · have Hs := Lib.hid hs
        go_wp2_with (first | (go_at_call 55; (refine (has_impl _ _ _ (by omega)).mono ?_; rintro e w' ⟨rfl, rfl⟩)) | (at_builtin; refine wpList_append_own _ rfl (.tmp 23) (.tmp 24) 22 rfl w.heap.size 5 i0 _ 1 1 Tryz.underlying22 hi0 hz0 hz1 hz2 rfl (by omega) _ _ _ rfl (Hown.out.alloc _) ⟨wr.heap.size, 0, none⟩ 1 1 [B8 46] rfl rfl ?c1 ?c2 ?c3 ?c4 ?c5 ?_))
        case c1 => exact cells_new wr #[B8 46] _
        case c2 => intro u hu; simp at hu; subst hu; rfl
        case c3 => unfold maxLen; omega
        case c4 => omega
        case c5 => simp; omega
        intro v2 w2 hown2 hgr2 _
        have Hown2 : Hid (w2.ownsRow w.heap.size 5 1 v2 (k + 1) ((bmText (k + 1) b).map B8)) := by rw [bmText_no Hs.out, List.map_append]; exact hown2
        have Hbel2 := Lib.hid (below_own (Hbel.out.alloc hsz _) (Hown.out.alloc _) hgr2 (Nat.le_refl _))
        clear hown2 hgr2 Hown Hbel hs
        go_wp2
        go_roundw
        case rel => exact ⟨k + 1, by omega, by go_num, Hown2.out, Hbel2.out⟩
        case measure => simp [intOf]; omega
      · have Hs := Lib.hid hs
        go_wp2_with (first | (go_at_call 55; (refine (has_impl _ _ _ (by omega)).mono ?_; rintro e w' ⟨rfl, rfl⟩)) | (at_builtin; refine wpList_append_own _ rfl (.tmp 20) (.tmp 21) 22 rfl w.heap.size 5 i0 _ 1 1 Tryz.underlying22 hi0 hz0 hz1 hz2 rfl (by omega) _ _ _ rfl (Hown.out.alloc _) ⟨wr.heap.size, 0, none⟩ 1 1 [B8 120] rfl rfl ?d1 ?d2 ?d3 ?d4 ?d5 ?_))
        case d1 => exact cells_new wr #[B8 120] _
        case d2 => intro u hu; simp at hu; subst hu; rfl
        case d3 => unfold maxLen; omega
        case d4 => omega
        case d5 => simp; omega
        intro v2 w2 hown2 hgr2 _
        have Hown2 : Hid (w2.ownsRow w.heap.size 5 1 v2 (k + 1) ((bmText (k + 1) b).map B8)) := by rw [bmText_yes Hs.out, List.map_append]; exact hown2
        have Hbel2 := Lib.hid (below_own (Hbel.out.alloc hsz _) (Hown.out.alloc _) hgr2 (Nat.le_refl _))
        clear hown2 hgr2 Hown Hbel hs
        go_wp2
        go_roundw
        case rel => exact ⟨k + 1, by omega, by go_num, Hown2.out, Hbel2.out⟩
        case measure => simp [intOf]; omega
    · obtain rfl : k = 16 := by omega
      have hl := bmText_len 16 b
      have hcv := own_conv (l := bmText 16 b) (w := wr) (base := w.heap.size) (A := A) (c := c) (by rw [hl]; exact Hown.out)
      rw [hl] at hcv
      clear hl
      go_wp2
      go_ret
      exact ⟨rfl, Hbel.out⟩
end Go.Proofs.YtifeilefdakapaaGreatDoor.Bt
