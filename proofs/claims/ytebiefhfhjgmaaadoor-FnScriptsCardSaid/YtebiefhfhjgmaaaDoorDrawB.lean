/- spec.DrawAct, spec.DrawPlaces: what they hand back. -/
import Derived.Test.YtebiefhfhjgmaaaDoorDrawA
namespace Go.Proofs.YtebiefhfhjgmaaaDoor.Dr
set_option maxRecDepth 100000
open Go.RowKit Mm Bt Ac AcM Fp Rd

/-- An act that has a text was drawn, in new memory. -/
def DARet (w : World) (e : Ending) (w' : World) : Prop := ∃ z k, Okz z k ∧ zn z = z ∧ e = .returned (Agg z) ∧ Below w.heap.size w w'
theorem da_mk {w w' : World} {z : List Int} {k : Nat} (h : Okz z k ∧ zn z = z) (hb : Below w.heap.size w w') : DARet w (.returned (.agg #[I (gI z 0), I (gI z 1), I (gI z 2), I (gI z 3), I (gI z 4)])) w' := ⟨z, k, h.1, h.2, rfl, hb⟩
theorem grown_out {a w w' : World} {g : Nat} (h : Below a.heap.size a w) (hg : w.grownBy w' (some g)) (hgl : a.heap.size ≤ g) : Below a.heap.size a w' :=
  h.grown hg h.size (fun k hk => by injection hk; omega)
set_option maxHeartbeats 2000000 in
theorem drawAct_any (A : Option Addr) (n c : Nat) (zs : List Int) (w : World) (hr : BRow w w.heap.size A n zs) (hn : n ≤ 1048576) :
    Calls Tryd.prog 40 #[.slice A n c] w (DARet w) := by
  go_enter Tryd.func40, Tryd.ntmps40
  go_wp2_with fail
  refine (new_any A n c zs _ (hr.below ((Below.refl _ _).alloc (Nat.le_refl _) _) |>.more (by simp)) hn).mono ?_
  rintro e w1 ⟨rfl, hc, hb1⟩
  have hk1 := (Blk.new w 44 #[I 0, I 0, I 0, I 0, I 0]).below hb1 (by simp)
  have HB1 : Hid (Below w.heap.size w w1) := ((Below.refl _ _).alloc (Nat.le_refl _) _).trans (hb1.mono (by simp))
  have Hk1 := Lib.hid hk1
  have hgl := hc.lt
  have hs1 := hk1.lt
  rw [World.size_alloc] at hc hgl
  clear hb1 hk1 hr
  go_wp2_with fail
  refine (act36_any (w.heap.size + 1) A n c zs _ hc).mono ?_
  rintro e w2 ⟨z, k, hz, hzn, rfl, hc2, hg2⟩
  have Hz : Hid (Okz z k ∧ zn z = z) := ⟨hz, hzn⟩
  have Hk2 := Lib.hid (blk_grown Hk1.out hg2 (by omega))
  have HB2 := Lib.hid (grown_out HB1.out hg2 (by omega))
  have b0 : w2.cell? ⟨w.heap.size, 0, none⟩ = some (I 0) := Hk2.out.cell 0
  have b1 : w2.cell? ⟨w.heap.size, 1, none⟩ = some (I 0) := Hk2.out.cell 1
  have b2 : w2.cell? ⟨w.heap.size, 2, none⟩ = some (I 0) := Hk2.out.cell 2
  have b3 : w2.cell? ⟨w.heap.size, 3, none⟩ = some (I 0) := Hk2.out.cell 3
  have b4 : w2.cell? ⟨w.heap.size, 4, none⟩ = some (I 0) := Hk2.out.cell 4
  have f0 : w2.frozen? ⟨w.heap.size, 0, none⟩ = false := Hk2.out.frozen 0
  have f1 : w2.frozen? ⟨w.heap.size, 1, none⟩ = false := Hk2.out.frozen 1
  have f2 : w2.frozen? ⟨w.heap.size, 2, none⟩ = false := Hk2.out.frozen 2
  have f3 : w2.frozen? ⟨w.heap.size, 3, none⟩ = false := Hk2.out.frozen 3
  have f4 : w2.frozen? ⟨w.heap.size, 4, none⟩ = false := Hk2.out.frozen 4
  clear hz hzn hc2 hg2 hc Hk1
  go_wp2
  have hB : Below w.heap.size w _ := ((((HB2.out.setCell (p := ⟨w.heap.size, 0, none⟩) (Nat.le_refl _) (I (gI z 0))).setCell (p := ⟨w.heap.size, 1, none⟩) (Nat.le_refl _) (I (gI z 1))).setCell (p := ⟨w.heap.size, 2, none⟩) (Nat.le_refl _) (I (gI z 2))).setCell (p := ⟨w.heap.size, 3, none⟩) (Nat.le_refl _) (I (gI z 3))).setCell (p := ⟨w.heap.size, 4, none⟩) (Nat.le_refl _) (I (gI z 4))
  refine bodyPost_ret (ret_act1 Tryd.results40 (p := 2) (g := w.heap.size) rfl (Blk.set5 Hk2.out (I (gI z 0)) (I (gI z 1)) (I (gI z 2)) (I (gI z 3)) (I (gI z 4)))) rfl (da_mk Hz.out hB)
/-- Twelve numbers from 0 to 9999, in new memory. -/
def PlRet (w : World) (e : Ending) (w' : World) : Prop :=
  ∃ A c zl, zl.length = 12 ∧ (∀ j, 0 ≤ gI zl j ∧ gI zl j ≤ 9999) ∧ e = .returned (.slice A 12 c) ∧ w'.ownsRow w.heap.size 3 1 (.slice A 12 c) 12 (zl.map I) ∧ Below w.heap.size w w'
theorem pl_mk {w w' : World} {v : Value} {zl : List Int} (hl : zl.length = 12) (hz : ∀ j, 0 ≤ gI zl j ∧ gI zl j ≤ 9999) (ho : w'.ownsRow (w.heap.size + 1) 3 1 v 12 (zl.map I)) (hb : Below w.heap.size w w') : PlRet w (.returned v) w' := by
  obtain ⟨A, c, rfl⟩ := own_form ho
  exact ⟨A, c, zl, hl, hz, rfl, own_mono ho (by omega), hb⟩
theorem gI_snoc (zl : List Int) (x : Int) (j : Nat) : gI (zl ++ [x]) j = if j < zl.length then gI zl j else if j = zl.length then x else 0 := by
  unfold gI List.getD
  by_cases h : j < zl.length
  · rw [if_pos h, List.getElem?_append_left h]
  · rw [if_neg h, List.getElem?_append_right (by omega)]
    by_cases e : j = zl.length
    · subst e; simp
    · rw [if_neg e, List.getElem?_eq_none (by simp; omega)]; rfl
theorem info_i : (Tryd.prog.info? 3).map (fun i => (i.zero, i.size, i.bytes)) = some (some (I 0), 1, 8) := by kernel_rfl
theorem own_g {w w' : World} {base g size n : Nat} {e : TypeId} {v : Value} {xs : List Value} (h : w.ownsRow base e size v n xs) (hg : w.grownBy w' (some g)) (hb : g < base) : w'.ownsRow base e size v n xs := by
  refine h.kept hg ?_
  rcases hv : v.ownBlock with _ | b
  · exact .inl rfl
  · exact .inr fun E => by injection E with E; have := (h.lt b hv).1; omega
set_option maxHeartbeats 2000000 in
theorem places_any (A : Option Addr) (n c : Nat) (zs : List Int) (w : World) (hr : BRow w w.heap.size A n zs) (hn : n ≤ 1048576) :
    Calls Tryd.prog 45 #[.slice A n c] w (PlRet w) := by
  obtain ⟨i0, hi0, hz0, hz1, hz2⟩ := info_parts info_i
  go_enter Tryd.func45, Tryd.ntmps45
  go_wp2_with fail
  refine (new_any A n c zs _ hr hn).mono ?_
  rintro e w1 ⟨rfl, hc, hb1⟩
  have Hc := Lib.hid hc
  have Hb1 := Lib.hid hb1
  have hgl := hc.lt
  clear hr hc hb1
  go_wp2
  go_loopw [4, 5] (fun v i wr => ∃ (k : Nat) (zl : List Int), k ≤ 12 ∧ i = .int .i64 k ∧ zl.length = k ∧ (∀ j, 0 ≤ gI zl j ∧ gI zl j ≤ 9999) ∧ Cur wr w.heap.size A n c zs ∧ wr.ownsRow (w.heap.size + 1) 3 1 v k (zl.map I) ∧ Below w.heap.size w wr) (fun _ i _ => 12 - (intOf i).toNat)
  case atStart => exact ⟨0, [], by omega, rfl, rfl, fun j => by simp [gI], cur_low Hc.out ((Below.refl _ _).alloc (by omega) _), own_mono (World.ownsRow_made _ _ _ (Nat.le_refl _) (Nat.zero_le _) rfl) (by omega), Hb1.out.alloc Hb1.out.size _⟩
  case round =>
    obtain ⟨k, zl, hk, rfl, hzl, hzb, hcu, hown, hbel⟩ := hrel
    obtain ⟨A', c', rfl⟩ := own_form hown
    have Hzl := Lib.hid hzl
    have Hzb := Lib.hid hzb
    have Hcu := Lib.hid hcu
    have Hown := Lib.hid hown
    have Hbel := Lib.hid hbel
    have hgw := hcu.lt
    clear hzl hzb hcu hown hbel
    by_cases hlt : k < 12
    · go_wp2_with fail
      refine (below_any 10000 (by decide) (by decide) w.heap.size A n c zs _ Hcu.out).mono ?_
      rintro e w2 ⟨x, hx0, hx1, rfl, hc2, hg2⟩
      have Hc2 := Lib.hid hc2
      have Hown2 := Lib.hid (own_g Hown.out hg2 (by omega))
      have Hbel2 := Lib.hid (grown_out Hbel.out hg2 (Nat.le_refl _))
      have hsz2 := Hbel2.out.size
      have hg2' := hc2.lt
      clear hc2 hg2 Hown Hbel Hcu
      go_wp2_with (at_builtin; refine wpList_append_own _ rfl (.tmp 13) (.tmp 16) 66 rfl (w.heap.size + 1) 3 i0 _ 1 8 Tryd.underlying66 hi0 hz0 hz1 hz2 rfl (by omega) _ _ _ rfl (Hown2.out.alloc _) ⟨w2.heap.size, 0, none⟩ 1 1 [I x] rfl rfl ?c1 ?c2 ?c3 ?c4 ?c5 ?_)
      case c1 => exact cells_new w2 #[I x] _
      case c2 => intro u hu; simp at hu; subst hu; rfl
      case c3 => unfold maxLen; omega
      case c4 => omega
      case c5 => simp; omega
      intro v3 w3 hown3 hgr3 _
      have Hown3 : Hid (w3.ownsRow (w.heap.size + 1) 3 1 v3 (k + 1) ((zl ++ [x]).map I)) := by rw [List.map_append]; exact hown3
      have hlow : Below (w.heap.size + 1) w2 w3 := ((Below.refl _ _).alloc (by omega) _).grown hgr3 (by simp; omega) (fun q hq => ((Hown2.out.alloc (.cells #[I x] 3)).lt q hq).1)
      have Hc3 := Lib.hid (cur_low Hc2.out hlow)
      have Hbel3 := Lib.hid (Hbel2.out.trans (hlow.mono (by omega)))
      clear hown3 hgr3 hlow Hown2 Hbel2 Hc2
      go_wp2
      go_roundw
      case rel => exact ⟨k + 1, zl ++ [x], by omega, by go_num, by rw [List.length_append, Hzl.out]; rfl, fun j => by
        rw [gI_snoc]
        split
        · exact Hzb.out j
        · split <;> omega, Hc3.out, Hown3.out, Hbel3.out⟩
      case measure => simp [intOf]; omega
    · obtain rfl : k = 12 := by omega
      go_wp2
      go_ret
      exact pl_mk Hzl.out Hzb.out Hown.out Hbel.out
end Go.Proofs.YtebiefhfhjgmaaaDoor.Dr
