/- spec.l36Act, spec.DrawAct, spec.DrawPlaces: what they hand back. -/
import Derived.Test.YtebiefhfhjgmaaaDoorAct34
import Derived.Test.YtebiefhfhjgmaaaDoorRound2
namespace Go.Proofs.YtebiefhfhjgmaaaDoor.Dr
set_option maxRecDepth 100000
open Go.RowKit Mm Bt Ac AcM Fp Rd

theorem okz_xz {z : List Int} {k : Nat} (h1 : 1 ≤ k) (h2 : k ≤ 10) (hz : ∀ j, 0 ≤ gI z j ∧ gI z j ≤ 1000000000) : Okz (Pl.xz z k) k ∧ zn (Pl.xz z k) = Pl.xz z k := by
  refine ⟨⟨h1, h2, rfl, fun i hi => ?_, fun i hi h0 hn => ?_⟩, rfl⟩
  · have h5 := idx_lt k i hi
    have hp := idx_pos k i hi
    rcases (show i = 1 ∨ i = 2 ∨ i = 3 ∨ i = 4 by omega) with rfl | rfl | rfl | rfl
    · have e : gI (Pl.xz z k) 1 = if 1 ∈ idx k then gI z 1 else 0 := rfl
      rw [e, if_pos hi]; exact hz 1
    · have e : gI (Pl.xz z k) 2 = if 2 ∈ idx k then gI z 2 else 0 := rfl
      rw [e, if_pos hi]; exact hz 2
    · have e : gI (Pl.xz z k) 3 = if 3 ∈ idx k then gI z 3 else 0 := rfl
      rw [e, if_pos hi]; exact hz 3
    · have e : gI (Pl.xz z k) 4 = if 4 ∈ idx k then gI z 4 else 0 := rfl
      rw [e, if_pos hi]; exact hz 4
  · rcases (show i = 1 ∨ i = 2 ∨ i = 3 ∨ i = 4 by omega) with rfl | rfl | rfl | rfl
    · have e : gI (Pl.xz z k) 1 = if 1 ∈ idx k then gI z 1 else 0 := rfl
      rw [e, if_neg hn]
    · have e : gI (Pl.xz z k) 2 = if 2 ∈ idx k then gI z 2 else 0 := rfl
      rw [e, if_neg hn]
    · have e : gI (Pl.xz z k) 3 = if 3 ∈ idx k then gI z 3 else 0 := rfl
      rw [e, if_neg hn]
    · have e : gI (Pl.xz z k) 4 = if 4 ∈ idx k then gI z 4 else 0 := rfl
      rw [e, if_neg hn]
/-- An act that has a text was drawn. -/
def TxtRet (g : Nat) (A : Option Addr) (n c : Nat) (zs : List Int) (w : World) (e : Ending) (w' : World) : Prop :=
  ∃ z k, Okz z k ∧ zn z = z ∧ e = .returned (Agg z) ∧ Cur w' g A n c zs ∧ w.grownBy w' (some g)
theorem txt_mk {g : Nat} {A : Option Addr} {n c : Nat} {zs : List Int} {w w' : World} {z : List Int} {k : Nat} (h : Okz z k ∧ zn z = z) (hc : Cur w' g A n c zs) (hg : w.grownBy w' (some g)) : TxtRet g A n c zs w (.returned (.agg #[I (gI z 0), I (gI z 1), I (gI z 2), I (gI z 3), I (gI z 4)])) w' := ⟨z, k, h.1, h.2, rfl, hc, hg⟩
set_option maxHeartbeats 2000000 in
theorem act36_any (g : Nat) (A : Option Addr) (n c : Nat) (zs : List Int) (w : World) (h : Cur w g A n c zs) :
    Calls Tryd.prog 70 #[.pointer (some ⟨g, 0, none⟩)] w (TxtRet g A n c zs w) := by
  have hgl := h.lt
  go_enter Tryd.func70, Tryd.ntmps70
  go_wp2_with fail
  refine (act_any 12 (by decide) (by decide) g A n c zs _ (cur_low h ((Below.refl _ _).alloc (by omega) _))).mono ?_
  rintro e w1 ⟨z, ⟨k, hk1, hk2, hk0, hz⟩, rfl, hc1, hg1⟩
  have hb1 := blk_grown (Blk.new w 44 #[I 0, I 0, I 0, I 0, I 0]) hg1 (by omega)
  have hG1 : w.grownBy w1 (some g) := grown_tr (grown_of_below ((Below.refl _ _).alloc (Nat.le_refl _) _) _) hg1
  have Hz := Lib.hid (okz_xz hk1 hk2 hz)
  have Hb1 := Lib.hid hb1
  have HG1 := Lib.hid hG1
  have Hc1 := Lib.hid hc1
  have hs1 := hb1.lt
  clear hb1 hG1 hg1 h hz hc1
  go_wp2_with fail
  refine (Pl.plain_any z k hk1 hk2 hk0 _).mono ?_
  rintro e w2 ⟨A2, c2, rfl, ho2, hb2⟩
  obtain ⟨y, hy⟩ : ∃ y, Pl.xz z k = y := ⟨_, rfl⟩
  rw [hy] at Hz ⊢
  have Hb2 := Lib.hid (Hb1.out.below hb2 hs1)
  have HB2 := Lib.hid hb2
  have b0 : w2.cell? ⟨w.heap.size, 0, none⟩ = some (I 0) := Hb2.out.cell 0
  have b1 : w2.cell? ⟨w.heap.size, 1, none⟩ = some (I 0) := Hb2.out.cell 1
  have b2 : w2.cell? ⟨w.heap.size, 2, none⟩ = some (I 0) := Hb2.out.cell 2
  have b3 : w2.cell? ⟨w.heap.size, 3, none⟩ = some (I 0) := Hb2.out.cell 3
  have b4 : w2.cell? ⟨w.heap.size, 4, none⟩ = some (I 0) := Hb2.out.cell 4
  have f0 : w2.frozen? ⟨w.heap.size, 0, none⟩ = false := Hb2.out.frozen 0
  have f1 : w2.frozen? ⟨w.heap.size, 1, none⟩ = false := Hb2.out.frozen 1
  have f2 : w2.frozen? ⟨w.heap.size, 2, none⟩ = false := Hb2.out.frozen 2
  have f3 : w2.frozen? ⟨w.heap.size, 3, none⟩ = false := Hb2.out.frozen 3
  have f4 : w2.frozen? ⟨w.heap.size, 4, none⟩ = false := Hb2.out.frozen 4
  have hs2 := Hb2.out.lt
  have hs12 := hb2.size
  clear hy ho2 hb2 Hb1 hk0
  go_wp2
  have hB : Below w.heap.size w1 _ := (((((HB2.out.mono (Nat.le_of_lt hs1)).setCell (p := ⟨w.heap.size, 0, none⟩) (Nat.le_refl _) (I (gI y 0))).setCell (p := ⟨w.heap.size, 1, none⟩) (Nat.le_refl _) (I (gI y 1))).setCell (p := ⟨w.heap.size, 2, none⟩) (Nat.le_refl _) (I (gI y 2))).setCell (p := ⟨w.heap.size, 3, none⟩) (Nat.le_refl _) (I (gI y 3))).setCell (p := ⟨w.heap.size, 4, none⟩) (Nat.le_refl _) (I (gI y 4))
  have hB2 : Below w.heap.size w1 _ := hB.alloc (by simp [World.setCell]; omega) (.cells #[I (gI y 0), I (gI y 1), I (gI y 2), I (gI y 3), I (gI y 4)] 44)
  refine bodyPost_ret (ret_act1 Tryd.results70 (p := 2) (g := w.heap.size) rfl (Blk.alloc (Blk.set5 Hb2.out (I (gI y 0)) (I (gI y 1)) (I (gI y 2)) (I (gI y 3)) (I (gI y 4))) _)) rfl (txt_mk Hz.out (cur_low Hc1.out (hB2.mono (by omega))) (grown_below HG1.out hB2))
end Go.Proofs.YtebiefhfhjgmaaaDoor.Dr
