/- FormatSpan of both sides: what they hand back, for all spans. -/
import Derived.Test.YtifeilefdakapaaGreatDoorKPSpan2
import Derived.Deep.RegionHeld3
namespace Go.Proofs.YtifeilefdakapaaGreatDoor.Bt
open Go.RowKit Mm Tb
set_option maxRecDepth 8000

def bmHi (c : Int) : Int := if c = 0 then 65535 else if c = 1 then 255 else if c = 2 then 15 else 3
theorem bmHi_eq {c : Int} (h0 : 0 ≤ c) (h3 : c ≤ 3) : (2 : Int) ^ (slots c).toNat = bmHi c + 1 := by
  rcases (show c = 0 ∨ c = 1 ∨ c = 2 ∨ c = 3 by omega) with rfl | rfl | rfl | rfl <;> rfl
theorem span_bd {p c b : Int} (h : spanB p c b = true) : 0 ≤ p ∧ p ≤ 31 ∧ 0 ≤ c ∧ c ≤ 3 ∧ 0 ≤ b ∧ b ≤ bmHi c := by
  obtain ⟨a1, a2, a3, a4, a5, a6⟩ := spanB_iff.1 h
  rw [bmHi_eq a3 a4] at a6
  exact ⟨a1, a2, a3, a4, a5, by omega⟩
/-- The text of the map b of a class. -/
def bmT (c b : Int) : ByteArray := ⟨(bmText (slots c).toNat b).toArray⟩
theorem bmT_size {c b : Int} : (bmT c b).size ≤ 16 := by
  have h : (bmT c b).size = (bmText (slots c).toNat b).length := rfl
  rw [h, bmText_len]
  rcases cls c with rfl | rfl | rfl | rfl | h
  iterate 4 decide
  rw [slots_no h]; decide
theorem fb_impl (c b s : Int) (w : World) (hs : s = slots c) (h0 : 0 ≤ c) (h3 : c ≤ 3) (hb0 : 0 ≤ b) (hb1 : b ≤ bmHi c) :
    Calls Tryz.prog 27 #[.int .i64 s, .int .i64 b] w fun e w' => e = .returned (.string (bmT c b)) ∧ Below w.heap.size w w' := by
  subst hs
  rcases (show c = 0 ∨ c = 1 ∨ c = 2 ∨ c = 3 by omega) with rfl | rfl | rfl | rfl
  · exact fb16_impl b w hb0 hb1
  · exact fb8_impl b w hb0 hb1
  · exact fb4_impl b w hb0 hb1
  · exact fb2_impl b w hb0 hb1
def It (n : Int) : ByteArray := ⟨(Lib.itoa n).toArray⟩
theorem It_size {n : Int} (h0 : -9223372036854775808 ≤ n) (h1 : n ≤ 9223372036854775807) : (It n).size ≤ 21 := Lib.itoa_length_le n (by omega) (by omega)
theorem it_impl (n : Int) (w : World) (h0 : -9223372036854775808 ≤ n) (h1 : n ≤ 9223372036854775807) (ht : Tab w) :
    Calls Tryz.prog 14 #[.int .i64 n] w fun e w' => e = .returned (.string (It n)) ∧ Below w.heap.size w w' := Fc.int_any n w h0 h1 ht
/-- The text of a span. -/
def spText (p c b : Int) : ByteArray := if spanB p c b then (((It p ++ ⟨#[58]⟩) ++ It c) ++ ⟨#[58]⟩) ++ bmT c b else ⟨#[]⟩
theorem three_keep {w u u' : World} {g : Nat} {p c b : Int} (h : u.cell? ⟨g, 0, none⟩ = some (I p) ∧ u.cell? ⟨g, 1, none⟩ = some (I c) ∧ u.cell? ⟨g, 2, none⟩ = some (I b) ∧ Below g w u) (hb : Below u.heap.size u u') :
    u'.cell? ⟨g, 0, none⟩ = some (I p) ∧ u'.cell? ⟨g, 1, none⟩ = some (I c) ∧ u'.cell? ⟨g, 2, none⟩ = some (I b) ∧ Below g w u' := by
  obtain ⟨h1, h2, h3, h4⟩ := h
  have hg : g < u.heap.size := World.block_lt_of_cell? u _ h1
  exact ⟨(hb.cell (p := ⟨g, 0, none⟩) hg).trans h1, (hb.cell (p := ⟨g, 1, none⟩) hg).trans h2, (hb.cell (p := ⟨g, 2, none⟩) hg).trans h3, h4.trans (hb.mono (by omega))⟩
theorem three_new {w u : World} {g : Nat} {t : TypeId} {p c b : Int} (hb : Blk u g t #[I p, I c, I b]) (h : Below g w u) :
    u.cell? ⟨g, 0, none⟩ = some (I p) ∧ u.cell? ⟨g, 1, none⟩ = some (I c) ∧ u.cell? ⟨g, 2, none⟩ = some (I b) ∧ Below g w u := ⟨hb.cell 0, hb.cell 1, hb.cell 2, h⟩
theorem blk_drew {w : World} {g : Nat} {t : TypeId} {cs : Array Value} (h : Blk w g t cs) : Blk w.drew g t cs := h
set_option maxHeartbeats 4000000 in
theorem fs_impl (p c b : Int) (w : World) (ht : Tab w) :
    Calls Tryz.prog 9 #[.agg #[.int .i64 p, .int .i64 c, .int .i64 b]] w fun e w' => e = .returned (.string (spText p c b)) ∧ Below w.heap.size w w' := by
  rcases hs : spanB p c b with _ | _
  · have Hs : Hid (spText p c b = ⟨#[]⟩) := by show _ = _; unfold spText; rw [hs]; rfl
    go_enter Tryz.func9, Tryz.ntmps9
    go_wp2_with fail
    refine (spanOk_impl p c b _).mono ?_
    rintro e w1 ⟨rfl, hb⟩
    have Hb : Hid (Below w.heap.size w w1) := ((Below.refl _ _).alloc (Nat.le_refl _) _).trans (hb.mono (by simp))
    clear hb
    go_wp2
    go_ret
    exact ⟨ret_str Hs.out.symm, Hb.out⟩
  · have Hs : Hid (spText p c b = (((It p ++ ⟨#[58]⟩) ++ It c) ++ ⟨#[58]⟩) ++ bmT c b) := by show _ = _; unfold spText; rw [hs]; rfl
    obtain ⟨a1, a2, a3, a4, a5, a6⟩ := span_bd hs
    have s1 := It_size (n := p) (by omega) (by omega)
    have s2 := It_size (n := c) (by omega) (by omega)
    have s3 := bmT_size (c := c) (b := b)
    have k1 : ¬ (9223372036854775807 < (It p).size + 1) := by omega
    have k2 : ¬ (9223372036854775807 < (It p).size + 1 + (It c).size) := by omega
    have k3 : ¬ (9223372036854775807 < (It p).size + 1 + (It c).size + 1) := by omega
    have k4 : ¬ (9223372036854775807 < (It p).size + 1 + (It c).size + 1 + (bmT c b).size) := by omega
    clear s1 s2 s3
    go_enter Tryz.func9, Tryz.ntmps9
    go_wp2_with fail
    refine (spanOk_impl p c b _).mono ?_
    rintro e w1 ⟨rfl, hb⟩
    have Hblk : Hid (Blk w1 w.heap.size 67 #[I p, I c, I b]) := (Blk.new w _ _).below hb (by simp)
    have Hb : Hid (Below w.heap.size w w1) := ((Below.refl _ _).alloc (Nat.le_refl _) _).trans (hb.mono (by simp))
    have Ht := Lib.hid ht
    clear hb ht
    go_wp2_with fail
    go_region_held3 (fun w' => w'.cell? ⟨w.heap.size, 0, none⟩ = some (I p) ∧ w'.cell? ⟨w.heap.size, 1, none⟩ = some (I c) ∧ w'.cell? ⟨w.heap.size, 2, none⟩ = some (I b) ∧ Below w.heap.size w w')
      ((first | exact three_keep (by assumption) (by assumption) | exact three_new (blk_drew Hblk.out) Hb.out.drew | assumption))
      ((first
        | (go_at_call 14; refine (it_impl _ _ (by omega) (by omega) (tab_below Ht.out (And.right (And.right (And.right (by assumption)))))).mono ?_; rintro e w' ⟨rfl, hbb⟩)
        | (go_at_call 28; refine (slots_impl _ _).mono ?_; rintro e w' ⟨rfl, rfl⟩)
        | (go_at_call 27; refine (fb_impl c _ _ _ rfl a3 a4 a5 a6).mono ?_; rintro e w' ⟨rfl, hbb⟩)))
    all_goals (go_wp2; go_ret; exact ⟨ret_str Hs.out.symm, And.right (And.right (And.right (by assumption)))⟩)
end Go.Proofs.YtifeilefdakapaaGreatDoor.Bt
