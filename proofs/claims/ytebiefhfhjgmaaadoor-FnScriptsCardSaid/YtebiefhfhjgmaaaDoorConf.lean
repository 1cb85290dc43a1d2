/- spec.l08Refuse, spec.l34Config: what they hand back; of what is old the cursor alone is written. -/
import Derived.Test.YtebiefhfhjgmaaaDoorDrawB
import Derived.Deep.RegionWith
namespace Go.Proofs.YtebiefhfhjgmaaaDoor.Dr
set_option maxRecDepth 100000
open Go.RowKit Mm Bt Ac AcM Fp Rd

/-- Some small numbers, in new memory. -/
def RfRet (g : Nat) (A : Option Addr) (n c : Nat) (zs : List Int) (w : World) (e : Ending) (w' : World) : Prop :=
  ∃ A' m c' zl, m ≤ 3 ∧ (∀ j, 0 ≤ gI zl j ∧ gI zl j ≤ 11) ∧ e = .returned (.slice A' m c') ∧ w'.ownsRow w.heap.size 3 1 (.slice A' m c') m (zl.map I) ∧ Cur w' g A n c zs ∧ w.grownBy w' (some g)
theorem rf_mk {g : Nat} {A : Option Addr} {n c m : Nat} {zs zl : List Int} {w w' : World} {v : Value} (hm : m ≤ 3) (hz : ∀ j, 0 ≤ gI zl j ∧ gI zl j ≤ 11) (ho : w'.ownsRow w.heap.size 3 1 v m (zl.map I)) (hc : Cur w' g A n c zs) (hg : w.grownBy w' (some g)) : RfRet g A n c zs w (.returned v) w' := by
  obtain ⟨A', c', rfl⟩ := own_form ho
  exact ⟨A', m, c', zl, hm, hz, rfl, ho, hc, hg⟩
/-- The cursor stays while a row above it is written. -/
theorem cur_row {w w' : World} {g base size m : Nat} {A : Option Addr} {n c : Nat} {zs : List Int} {e : TypeId} {v : Value} {xs : List Value} (h : Cur w g A n c zs) (ho : w.ownsRow base e size v m xs) (hg : w.grownBy w' v.ownBlock) (hb : g < base) : Cur w' g A n c zs := by
  have hl := h.lt
  exact cur_low h ((Below.refl _ _).grown hg (by omega) (fun q hq => by have := (ho.lt q hq).1; omega))
theorem grown_row {a w w' : World} {g base size m : Nat} {e : TypeId} {v : Value} {xs : List Value} (h : a.grownBy w (some g)) (ho : w.ownsRow base e size v m xs) (hg : w.grownBy w' v.ownBlock) (hb : a.heap.size ≤ base) : a.grownBy w' (some g) :=
  grown_below h ((Below.refl _ _).grown hg h.size (fun q hq => by have := (ho.lt q hq).1; omega))
set_option maxHeartbeats 2000000 in
theorem refuse_any (g : Nat) (A : Option Addr) (n c : Nat) (zs : List Int) (w : World) (h : Cur w g A n c zs) :
    Calls Tryd.prog 94 #[.pointer (some ⟨g, 0, none⟩)] w (RfRet g A n c zs w) := by
  obtain ⟨i0, hi0, hz0, hz1, hz2⟩ := info_parts info_i
  have hgl := h.lt
  have H := Lib.hid h
  clear h
  go_enter Tryd.func94, Tryd.ntmps94
  go_wp2
  go_loopw [3, 4] (fun v i wr => ∃ (k : Nat) (zl : List Int), k ≤ 3 ∧ i = .int .i64 k ∧ (∀ j, 0 ≤ gI zl j ∧ gI zl j ≤ 11) ∧ Cur wr g A n c zs ∧ wr.ownsRow w.heap.size 3 1 v k (zl.map I) ∧ w.grownBy wr (some g)) (fun _ i _ => 3 - (intOf i).toNat)
  case atStart => exact ⟨0, [], by omega, rfl, fun j => by simp [gI], cur_low H.out ((Below.refl _ _).alloc (by omega) _), World.ownsRow_made _ _ _ (Nat.le_refl _) (Nat.zero_le _) rfl, grown_of_below ((Below.refl _ _).alloc (Nat.le_refl _) _) _⟩
  case round =>
    obtain ⟨k, zl, hk, rfl, hzb, hcu, hown, hgr⟩ := hrel
    obtain ⟨A', c', rfl⟩ := own_form hown
    have Hzb := Lib.hid hzb
    have Hcu := Lib.hid hcu
    have Hown := Lib.hid hown
    have Hgr := Lib.hid hgr
    have hsz := hgr.size
    clear hzb hcu hown hgr
    go_wp2_with fail
    refine (below_any 4 (by decide) (by decide) g A n c zs _ Hcu.out).mono ?_
    rintro e w1 ⟨x, hx0, hx1, rfl, hc1, hg1⟩
    have Hc1 := Lib.hid hc1
    have Hown1 := Lib.hid (own_g Hown.out hg1 hgl)
    have Hgr1 := Lib.hid (grown_tr Hgr.out hg1)
    have hsz1 := Hgr1.out.size
    clear hc1 hg1 Hown Hgr Hcu
    by_cases hlt : (k : Int) < x
    · go_wp2_with fail
      refine (below_any 12 (by decide) (by decide) g A n c zs _ Hc1.out).mono ?_
      rintro e w2 ⟨y, hy0, hy1, rfl, hc2, hg2⟩
      have Hown2 := Lib.hid (own_g Hown1.out hg2 hgl)
      have Hgr2 := Lib.hid (grown_tr Hgr1.out hg2)
      have Hc2 := Lib.hid hc2
      have hsz2 := Hgr2.out.size
      clear hc2 hg2 Hown1 Hgr1 Hc1
      go_wp2_with (at_builtin; refine wpList_append_own _ rfl (.tmp 12) (.tmp 15) 66 rfl w.heap.size 3 i0 _ 1 8 Tryd.underlying66 hi0 hz0 hz1 hz2 rfl (by omega) _ _ _ rfl (Hown2.out.alloc _) ⟨w2.heap.size, 0, none⟩ 1 1 [I y] rfl rfl ?c1 ?c2 ?c3 ?c4 ?c5 ?_)
      case c1 => exact cells_new w2 #[I y] _
      case c2 => intro u hu; simp at hu; subst hu; rfl
      case c3 => unfold maxLen; omega
      case c4 => omega
      case c5 => simp; omega
      intro v3 w3 hown3 hgr3 _
      have Hown3 : Hid (w3.ownsRow w.heap.size 3 1 v3 (k + 1) ((zl ++ [y]).map I)) := by rw [List.map_append]; exact hown3
      have hk3 := cur_row (cur_low Hc2.out ((Below.refl _ _).alloc (by omega) (.cells #[I y] 3))) (Hown2.out.alloc _) hgr3 hgl
      have hg3 := grown_row (grown_below Hgr2.out ((Below.refl _ _).alloc hsz2 (.cells #[I y] 3))) (Hown2.out.alloc _) hgr3 (Nat.le_refl _)
      have Hk3 := Lib.hid hk3
      have Hg3 := Lib.hid hg3
      have hlen := Lib.hid (show zl.length = k by have := Hown2.out.1; simpa using this)
      clear hown3 hgr3 hk3 hg3 Hown2 Hgr2 Hc2
      go_wp2
      go_roundw
      case rel => exact ⟨k + 1, zl ++ [y], by omega, by go_num, fun j => by
        rw [gI_snoc]
        split
        · exact Hzb.out j
        · have := hlen.out
          split <;> omega, Hk3.out, Hown3.out, Hg3.out⟩
      case measure => simp [intOf]; omega
    · go_wp2
      go_ret
      exact rf_mk hk Hzb.out Hown1.out Hc1.out Hgr1.out
/-- A configuration. -/
def CfRet (g : Nat) (A : Option Addr) (n c : Nat) (zs : List Int) (w : World) (e : Ending) (w' : World) : Prop :=
  ∃ p f t l A' m c' zl, 6 ≤ p ∧ p ≤ 12 ∧ p - 3 ≤ f ∧ f ≤ p ∧ 1 ≤ t ∧ t ≤ 3 ∧ 40 ≤ l ∧ l ≤ 139 ∧ m ≤ 3 ∧ (∀ j, 0 ≤ gI zl j ∧ gI zl j ≤ 11) ∧ e = .returned (.agg #[I p, I f, I t, I l, .slice A' m c']) ∧ w'.ownsRow w.heap.size 3 1 (.slice A' m c') m (zl.map I) ∧ Cur w' g A n c zs ∧ w.grownBy w' (some g)
theorem load_cf (w : World) (g : Nat) (x0 x1 x2 x3 x4 : Value) (h : Blk w g 68 #[x0, x1, x2, x3, x4]) : (loadVar 68 ⟨g, 0, none⟩).run Tryd.prog w = .ok (.agg #[x0, x1, x2, x3, x4]) w := by
  have b0 : w.cell? ⟨g, 0, none⟩ = some x0 := h.cell 0
  have b1 : w.cell? ⟨g, 1, none⟩ = some x1 := h.cell 1
  have b2 : w.cell? ⟨g, 2, none⟩ = some x2 := h.cell 2
  have b3 : w.cell? ⟨g, 3, none⟩ = some x3 := h.cell 3
  have b4 : w.cell? ⟨g, 4, none⟩ = some x4 := h.cell 4
  simp [go_sem, b0, b1, b2, b3, b4]
theorem ret_cf {fn : Func} {p : Tmp} (h : fn.results = #[.cell p 68]) {tmps : Array Value} {w : World} {g : Nat} {x0 x1 x2 x3 x4 : Value} (hp : tmps.getD p undef = .pointer (some ⟨g, 0, none⟩)) (hb : Blk w g 68 #[x0, x1, x2, x3, x4]) :
    (results fn tmps).run Tryd.prog w = .ok (.agg #[x0, x1, x2, x3, x4]) w := by
  rw [results_cell1 h, hp]
  simp [asAddr, load_cf w g x0 x1 x2 x3 x4 hb]
theorem set5' {w : World} {g : Nat} {t : TypeId} {a b c d e : Value} (h : Blk w g t #[a, b, c, d, e]) (x0 x1 x2 x3 x4 : Value) :
    Blk (((((w.setCell ⟨g, 0, none⟩ x0).setCell ⟨g, 1, none⟩ x1).setCell ⟨g, 2, none⟩ x2).setCell ⟨g, 3, none⟩ x3).setCell ⟨g, 4, none⟩ x4) g t #[x0, x1, x2, x3, x4] :=
  ((((h.set_ 0 x0).set_ 1 x1).set_ 2 x2).set_ 3 x3).set_ 4 x4
/-- A row above two blocks that are written. -/
theorem own_keep {w : World} {base g h size n : Nat} {e : TypeId} {v : Value} {xs : List Value} {a b c d f k : Value} (ho : w.ownsRow (h + 1) e size v n xs) (hb : g + 1 ≤ h + 1) (hbase : base ≤ h + 1) :
    ((((((w.setCell ⟨h, 4, none⟩ k).setCell ⟨g, 0, none⟩ a).setCell ⟨g, 1, none⟩ b).setCell ⟨g, 2, none⟩ c).setCell ⟨g, 3, none⟩ d).setCell ⟨g, 4, none⟩ f).ownsRow base e size v n xs := by
  refine own_mono ?_ hbase
  have st : ∀ {W : World} {b i : Nat} {u : Value}, b < h + 1 → W.ownsRow (h + 1) e size v n xs → (W.setCell ⟨b, i, none⟩ u).ownsRow (h + 1) e size v n xs := fun hb h0 => own_g h0 (grown_setCell (grown_refl _ _) _ _) hb
  exact st (by omega) (st (by omega) (st (by omega) (st (by omega) (st (by omega) (st (by omega) ho)))))
set_option maxHeartbeats 4000000 in
theorem config_any (g : Nat) (A : Option Addr) (n c : Nat) (zs : List Int) (w : World) (h : Cur w g A n c zs) :
    Calls Tryd.prog 74 #[.pointer (some ⟨g, 0, none⟩)] w (CfRet g A n c zs w) := by
  have hgl := h.lt
  go_enter Tryd.func74, Tryd.ntmps74
  go_wp2_with fail
  refine (below_any 7 (by decide) (by decide) g A n c zs _ (cur_low h ((Below.refl _ _).alloc (by omega) _))).mono ?_
  rintro e w1 ⟨x, hx0, hx1, rfl, hc1, hg1⟩
  have hb1 := blk_grown (Blk.new w 68 #[I 0, I 0, I 0, I 0, .slice none 0 0]) hg1 (by omega)
  have Hb1 := Lib.hid hb1
  have HG1 := Lib.hid (grown_tr (grown_of_below ((Below.refl _ _).alloc (Nat.le_refl _) (.cells #[I 0, I 0, I 0, I 0, .slice none 0 0] 68)) (some g)) hg1)
  have hs1 := hb1.lt
  clear hb1 hg1 h
  go_wp2_with fail
  refine (below_any 3 (by decide) (by decide) g A n c zs _ hc1).mono ?_
  rintro e w2 ⟨y, hy0, hy1, rfl, hc2, hg2⟩
  have Hb2 := Lib.hid (blk_grown Hb1.out hg2 (by omega))
  have HG2 := Lib.hid (grown_tr HG1.out hg2)
  have hs2 := Hb2.out.lt
  clear hc1 hg2 Hb1 HG1
  go_wp2_with fail
  refine (below_any 100 (by decide) (by decide) g A n c zs _ hc2).mono ?_
  rintro e w3 ⟨v, hv0, hv1, rfl, hc3, hg3⟩
  have Hb3 := Lib.hid (blk_grown Hb2.out hg3 (by omega))
  have HG3 := Lib.hid (grown_tr HG2.out hg3)
  have Hc3 := Lib.hid hc3
  have hs3 := Hb3.out.lt
  clear hc2 hc3 hg3 Hb2 HG2
  go_wp2_with fail
  have hd3 : Blk (w3.alloc (.cells #[I (6 + x), I 0, I (1 + y), I (40 + v), .slice none 0 0] 68)).drew w3.heap.size 68 #[I (6 + x), I 0, I (1 + y), I (40 + v), .slice none 0 0] := Blk.new w3 _ _
  have hB3 : Below w.heap.size w3 (w3.alloc (.cells #[I (6 + x), I 0, I (1 + y), I (40 + v), .slice none 0 0] 68)).drew := ((Below.refl _ _).alloc (by omega) _).drew
  have Hd3 := Lib.hid hd3
  have HB3 := Lib.hid hB3
  clear hd3 hB3
  go_region_with ((first | (go_at_call 48; refine (below_any 4 (by decide) (by decide) g A n c zs _ (cur_low Hc3.out (HB3.out.mono (by omega)))).mono ?_; rintro e w4 ⟨u, hu0, hu1, rfl, hc4, hg4⟩; have hk4 := blk_grown Hd3.out hg4 (by omega); have k0 := hk4.cell 0; have k1 := hk4.cell 1; have m1 := hk4.frozen 1; have Hk4 := Lib.hid hk4; have Hc4 := Lib.hid hc4; have Hg4 := Lib.hid hg4; have Hx4 := Lib.hid (blk_grown (AcM.Blk.drew (Hb3.out.alloc (.cells #[I (6 + x), I 0, I (1 + y), I (40 + v), .slice none 0 0] 68))) hg4 (by omega)); clear hk4 hc4 hg4)))
  all_goals
    go_wp2_with fail
    have hs4 := Hk4.out.lt
    have hB5 : Below w.heap.size w4 (w4.setCell ⟨w3.heap.size, 1, none⟩ (I (6 + x - u))) := (Below.refl _ _).setCell (p := ⟨w3.heap.size, 1, none⟩) (by simp; omega) _
    have HB5 := Lib.hid hB5
    have HD5 := Lib.hid (Hk4.out.set_ 1 (I (6 + x - u)))
    have HX5 := Lib.hid (Hx4.out.far (p := ⟨w3.heap.size, 1, none⟩) (by simp; omega) (I (6 + x - u)))
    have HG5 := Lib.hid (grown_below (grown_tr (grown_below HG3.out HB3.out) Hg4.out) hB5)
    clear hB5 k0 k1 m1
    refine (refuse_any g A n c zs _ (cur_low Hc4.out (HB5.out.mono (by omega)))).mono ?_
    rintro e w6 ⟨A6, m, c6, zl, hm, hz, rfl, ho, hc6, hg6⟩
    have HD6 := Lib.hid (blk_grown HD5.out hg6 (by omega))
    have HX6 := Lib.hid (blk_grown HX5.out hg6 (by omega))
    have HG6 := Lib.hid (grown_tr HG5.out hg6)
    have Hc6 := Lib.hid hc6
    have hs6 := HD6.out.lt
    have hsz5 : (w4.setCell ⟨w3.heap.size, 1, none⟩ (I (6 + x - u))).heap.size = w4.heap.size := by simp [World.setCell]
    have ho6 : w6.ownsRow (w3.heap.size + 1) 3 1 (.slice A6 m c6) m (zl.map I) := own_mono ho (by omega)
    have Ho6 := Lib.hid ho6
    have Hz6 := Lib.hid hz
    have d0 : w6.cell? ⟨w3.heap.size, 0, none⟩ = some (I (6 + x)) := HD6.out.cell 0
    have d1 : w6.cell? ⟨w3.heap.size, 1, none⟩ = some (I (6 + x - u)) := HD6.out.cell 1
    have d2 : w6.cell? ⟨w3.heap.size, 2, none⟩ = some (I (1 + y)) := HD6.out.cell 2
    have d3 : w6.cell? ⟨w3.heap.size, 3, none⟩ = some (I (40 + v)) := HD6.out.cell 3
    have d4 : w6.cell? ⟨w3.heap.size, 4, none⟩ = some (.slice none 0 0) := HD6.out.cell 4
    have g4 : w6.frozen? ⟨w3.heap.size, 4, none⟩ = false := HD6.out.frozen 4
    have x0 : w6.cell? ⟨w.heap.size, 0, none⟩ = some (I 0) := HX6.out.cell 0
    have x1 : w6.cell? ⟨w.heap.size, 1, none⟩ = some (I 0) := HX6.out.cell 1
    have x2 : w6.cell? ⟨w.heap.size, 2, none⟩ = some (I 0) := HX6.out.cell 2
    have x3 : w6.cell? ⟨w.heap.size, 3, none⟩ = some (I 0) := HX6.out.cell 3
    have x4 : w6.cell? ⟨w.heap.size, 4, none⟩ = some (.slice none 0 0) := HX6.out.cell 4
    have y0 : w6.frozen? ⟨w.heap.size, 0, none⟩ = false := HX6.out.frozen 0
    have y1 : w6.frozen? ⟨w.heap.size, 1, none⟩ = false := HX6.out.frozen 1
    have y2 : w6.frozen? ⟨w.heap.size, 2, none⟩ = false := HX6.out.frozen 2
    have y3 : w6.frozen? ⟨w.heap.size, 3, none⟩ = false := HX6.out.frozen 3
    have y4 : w6.frozen? ⟨w.heap.size, 4, none⟩ = false := HX6.out.frozen 4
    clear ho ho6 hz hc6 hg6 hsz5 HD5 HX5 HG5
    go_wp2
    have hB : Below w.heap.size w6 _ := ((((((Below.refl _ _).setCell (p := ⟨w3.heap.size, 4, none⟩) (show w.heap.size ≤ w3.heap.size by omega) (.slice A6 m c6)).setCell (p := ⟨w.heap.size, 0, none⟩) (Nat.le_refl _) (I (6 + x))).setCell (p := ⟨w.heap.size, 1, none⟩) (Nat.le_refl _) (I (6 + x - u))).setCell (p := ⟨w.heap.size, 2, none⟩) (Nat.le_refl _) (I (1 + y))).setCell (p := ⟨w.heap.size, 3, none⟩) (Nat.le_refl _) (I (40 + v))).setCell (p := ⟨w.heap.size, 4, none⟩) (Nat.le_refl _) (.slice A6 m c6)
    refine bodyPost_ret (ret_cf Tryd.results74 (p := 2) (g := w.heap.size) rfl (set5' (HX6.out.far (p := ⟨w3.heap.size, 4, none⟩) (show w.heap.size ≠ w3.heap.size by omega) (.slice A6 m c6)) (I (6 + x)) (I (6 + x - u)) (I (1 + y)) (I (40 + v)) (.slice A6 m c6))) rfl ⟨6 + x, 6 + x - u, 1 + y, 40 + v, A6, m, c6, zl, by omega, by omega, by omega, by omega, by omega, by omega, by omega, by omega, hm, Hz6.out, rfl, ?_, cur_low Hc6.out (hB.mono (by omega)), grown_below HG6.out hB⟩
    exact own_keep Ho6.out (show w.heap.size + 1 ≤ w3.heap.size + 1 by omega) (by omega)
end Go.Proofs.YtebiefhfhjgmaaaDoor.Dr
