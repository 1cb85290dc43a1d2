/- spec.DrawActs: what it hands back. -/
import Derived.Test.YtebiefhfhjgmaaaDoorConf
namespace Go.Proofs.YtebiefhfhjgmaaaDoor.Dr
set_option maxRecDepth 100000
open Go.RowKit Mm Bt Ac AcM Fp Rd Jr

/-- Each act has a text. -/
def OkA (m : List (List Int)) : Prop := ∀ z ∈ m, (∃ k, Okz z k) ∧ zn z = z
theorem okA_snoc {m : List (List Int)} {z : List Int} {k : Nat} (h : OkA m) (hz : Okz z k ∧ zn z = z) : OkA (m ++ [z]) := fun y hy => by
  rcases List.mem_append.1 hy with hy | hy
  · exact h y hy
  · obtain rfl := List.mem_singleton.1 hy
    exact ⟨⟨k, hz.1⟩, hz.2⟩
/-- A configuration's numbers. -/
def CfOk (p f t l : Int) (m : Nat) (zl : List Int) : Prop := 6 ≤ p ∧ p ≤ 12 ∧ p - 3 ≤ f ∧ f ≤ p ∧ 1 ≤ t ∧ t ≤ 3 ∧ 40 ≤ l ∧ l ≤ 139 ∧ m ≤ 3 ∧ ∀ j, 0 ≤ gI zl j ∧ gI zl j ≤ 11
/-- A configuration and acts that have a text were drawn, in new memory. -/
def DsRet (w : World) (e : Ending) (w' : World) : Prop :=
  ∃ p f t l A' m' c' zl A c m, CfOk p f t l m' zl ∧ m.length ≤ 29 ∧ OkA m ∧ e = .returned (.tuple #[.agg #[I p, I f, I t, I l, .slice A' m' c'], .slice A m.length c]) ∧
    w'.ownsRow w.heap.size 3 1 (.slice A' m' c') m' (zl.map I) ∧ w'.ownsRow w.heap.size 44 5 (.slice A m.length c) m.length ((rows m).map I) ∧ Below w.heap.size w w'
theorem ds_mk {w w' : World} {p f t l : Int} {A' : Option Addr} {m' c' : Nat} {zl : List Int} {m : List (List Int)} {v : Value} (hc : CfOk p f t l m' zl) (hm : m.length ≤ 29) (ho : OkA m) (h1 : w'.ownsRow w.heap.size 3 1 (.slice A' m' c') m' (zl.map I)) (h2 : w'.ownsRow w.heap.size 44 5 v m.length ((rows m).map I)) (hb : Below w.heap.size w w') : DsRet w (.returned (.tuple #[.agg #[I p, I f, I t, I l, .slice A' m' c'], v])) w' := by
  obtain ⟨A, c, rfl⟩ := own_form h2
  exact ⟨p, f, t, l, A', m', c', zl, A, c, m, hc, hm, ho, rfl, h1, h2, hb⟩
theorem ret_cf2 {fn : Func} {p u : Tmp} (h : fn.results = #[.cell p 68, .tmp u]) {tmps : Array Value} {w : World} {g : Nat} {x0 x1 x2 x3 x4 : Value} (hp : tmps.getD p undef = .pointer (some ⟨g, 0, none⟩)) (hb : Blk w g 68 #[x0, x1, x2, x3, x4]) :
    (results fn tmps).run Tryd.prog w = .ok (.tuple #[.agg #[x0, x1, x2, x3, x4], tmps.getD u undef]) w := by
  rw [results_cell_tmp h, hp]
  simp [asAddr, load_cf w g x0 x1 x2 x3 x4 hb]
theorem own_set {w : World} {base b i size n : Nat} {e : TypeId} {v u : Value} {xs : List Value} (h : w.ownsRow base e size v n xs) (hb : b < base) : (w.setCell ⟨b, i, none⟩ u).ownsRow base e size v n xs := own_g h (grown_setCell (grown_refl _ _) _ _) hb
/-- What the loop of DrawActs keeps. -/
def Inv (w : World) (h2 : Nat) (A : Option Addr) (n c : Nat) (zs : List Int) (v : Value) (m : List (List Int)) (R : Value) (m' : Nat) (zl : List Int) (X Y : Array Value) (W : World) : Prop :=
  Cur W (w.heap.size + 1) A n c zs ∧ W.ownsRow (h2 + 1) 44 5 v m.length ((rows m).map I) ∧ (W.ownsRow (w.heap.size + 2) 3 1 R m' (zl.map I) ∧ ∀ q, R.ownBlock = some q → q < h2) ∧ Blk W w.heap.size 68 X ∧ Blk W h2 68 Y ∧ Below w.heap.size w W ∧ w.heap.size + 2 ≤ h2
section
variable {w : World} {h2 : Nat} {A : Option Addr} {n c : Nat} {zs : List Int} {v : Value} {m : List (List Int)} {R : Value} {m' : Nat} {zl : List Int} {X Y : Array Value} {W W' : World}
theorem Inv.below (h : Inv w h2 A n c zs v m R m' zl X Y W) (hb : Below W.heap.size W W') : Inv w h2 A n c zs v m R m' zl X Y W' := by
  obtain ⟨a1, a2, ⟨a3, a4⟩, a5, a6, a7, a8⟩ := h
  exact ⟨a1.below hb, own_below a2 hb, ⟨own_below a3 hb, a4⟩, a5.below hb a5.lt, a6.below hb a6.lt, a7.trans (hb.mono a7.size), a8⟩
theorem Inv.grown (h : Inv w h2 A n c zs v m R m' zl X Y W) (hc : Cur W' (w.heap.size + 1) A n c zs) (hg : W.grownBy W' (some (w.heap.size + 1))) : Inv w h2 A n c zs v m R m' zl X Y W' := by
  obtain ⟨_, a2, ⟨a3, a4⟩, a5, a6, a7, a8⟩ := h
  exact ⟨hc, own_g a2 hg (by omega), ⟨own_g a3 hg (by omega), a4⟩, blk_grown a5 hg (by omega), blk_grown a6 hg (by omega), grown_out a7 hg (by omega), a8⟩
theorem Inv.row {v' : Value} {z : List Int} (h : Inv w h2 A n c zs v m R m' zl X Y W) (ho : W'.ownsRow (h2 + 1) 44 5 v' (m ++ [z]).length ((rows (m ++ [z])).map I)) (hg : W.grownBy W' v.ownBlock) : Inv w h2 A n c zs v' (m ++ [z]) R m' zl X Y W' := by
  obtain ⟨a1, a2, ⟨a3, a4⟩, a5, a6, a7, a8⟩ := h
  have hl := a6.lt
  have hB : Below (h2 + 1) W W' := (Below.refl _ _).grown hg (by omega) (fun q hq => (a2.lt q hq).1)
  refine ⟨cur_low a1 (hB.mono (by omega)), ho, ⟨own_other a3 hg ?_, a4⟩, a5.below hB (by omega), a6.below hB (by omega), a7.trans (hB.mono (by omega)), a8⟩
  rcases hR : R.ownBlock with _ | q
  · exact .inl rfl
  · refine .inr fun E => ?_
    have h1 := a4 q hR
    have h3 := (a2.lt q E.symm).1
    omega
end
set_option maxHeartbeats 8000000 in
theorem drawActs_any (A : Option Addr) (n c : Nat) (zs : List Int) (w : World) (hr : BRow w w.heap.size A n zs) (hn : n ≤ 1048576) :
    Calls Tryd.prog 44 #[.slice A n c] w (DsRet w) := by
  obtain ⟨i0, hi0, hz0, hz1, hz2⟩ := info_parts info_a
  go_enter Tryd.func44, Tryd.ntmps44
  go_wp2_with fail
  refine (new_any A n c zs _ (hr.below ((Below.refl _ _).alloc (Nat.le_refl _) _) |>.more (by simp)) hn).mono ?_
  rintro e w1 ⟨rfl, hc, hb1⟩
  have hk1 := (Blk.new w 68 #[I 0, I 0, I 0, I 0, .slice none 0 0]).below hb1 (by simp)
  have HB1 := Lib.hid ((((Below.refl w.heap.size w).alloc (Nat.le_refl _) (.cells #[I 0, I 0, I 0, I 0, .slice none 0 0] 68)).trans (hb1.mono (by simp))))
  have Hk1 := Lib.hid hk1
  have hgl := hc.lt
  have hs1 := hk1.lt
  rw [World.size_alloc] at hc hgl
  clear hb1 hk1 hr
  go_wp2_with fail
  refine (config_any (w.heap.size + 1) A n c zs _ hc).mono ?_
  rintro e w2 ⟨p, f, t, l, A', m', c', zl, a1, a2, a3, a4, a5, a6, a7, a8, a9, a10, rfl, ho2, hc2, hg2⟩
  have HCf := Lib.hid (show CfOk p f t l m' zl from ⟨a1, a2, a3, a4, a5, a6, a7, a8, a9, a10⟩)
  have Hk2 := Lib.hid (blk_grown Hk1.out hg2 (by omega))
  have HB2 := Lib.hid (grown_out HB1.out hg2 (by omega))
  have Hr2 := Lib.hid (own_mono ho2 (show w.heap.size + 2 ≤ w1.heap.size by omega))
  have Hc2 := Lib.hid hc2
  have hs2 := Hk2.out.lt
  have hgl2 := hc2.lt
  have hlt2 : w.heap.size + 2 ≤ w2.heap.size := by omega
  clear a1 a2 a3 a4 a5 a6 a7 a8 a9 a10 ho2 hc2 hg2 hc Hk1 HB1
  obtain ⟨g5, hg5⟩ : ∃ g5, w2.heap.size = g5 := ⟨_, rfl⟩
  have Hg5 := Lib.hid hg5
  clear hg5
  go_wp2
  go_loopw [6, 7] (fun v i wr => ∃ (k : Nat) (m : List (List Int)), k ≤ 29 ∧ i = .int .i64 k ∧ m.length = k ∧ OkA m ∧ Inv w w2.heap.size A n c zs v m (.slice A' m' c') m' zl #[I 0, I 0, I 0, I 0, .slice none 0 0] #[I p, I f, I t, I l, .slice A' m' c'] wr) (fun _ i _ => 29 - (intOf i).toNat)
  case atStart =>
    have hrow := World.ownsRow_made (base := w2.heap.size + 1) (e := 44) (size := 5) (w2.alloc (.cells #[I p, I f, I t, I l, .slice A' m' c'] 68)) #[] 0 (by simp) (Nat.zero_le _) rfl
    rw [World.size_alloc] at hrow
    refine ⟨0, [], by omega, rfl, rfl, fun y hy => by simp at hy, cur_low (cur_low Hc2.out ((Below.refl _ _).alloc (by omega) _)) ((Below.refl _ _).alloc (by simp; omega) _), hrow, ⟨(Hr2.out.alloc _).alloc _, fun q hq => (Hr2.out.lt q hq).2⟩, (Hk2.out.alloc _).alloc _, (Blk.new _ _ _).alloc _, (HB2.out.alloc HB2.out.size _).alloc (by have := HB2.out.size; simp; omega) _, hlt2⟩
  case round =>
    obtain ⟨k, m, hk, rfl, hmk, hok, hinv⟩ := hrel
    have Hmk := Lib.hid hmk
    have Hok := Lib.hid hok
    have Hinv := Lib.hid hinv
    have hcw := hinv.1.lt
    clear hmk hok hinv
    go_wp2_with fail
    refine (below_any 30 (by decide) (by decide) (w.heap.size + 1) A n c zs _ Hinv.out.1).mono ?_
    rintro e w3 ⟨x, hx0, hx1, rfl, hc3, hg3⟩
    have Hinv3 := Lib.hid (Hinv.out.grown hc3 hg3)
    clear hc3 hg3 Hinv
    by_cases hlt : (k : Int) < x
    · go_wp2_with fail
      refine (act_any _ (by omega) (by omega) (w.heap.size + 1) A n c zs _ Hinv3.out.1).mono ?_
      rintro e w4 ⟨z, ⟨kk, hk1, hk2, hk0, hz⟩, rfl, hc4, hg4⟩
      have Hz := Lib.hid (okz_xz hk1 hk2 hz)
      have Hinv4 := Lib.hid (Hinv3.out.grown hc4 hg4)
      clear hc4 hg4 Hinv3 hz
      go_wp2_with fail
      refine (Pl.plain_any z kk hk1 hk2 hk0 _).mono ?_
      rintro e w5 ⟨A5, c5, rfl, ho5, hb5⟩
      obtain ⟨y, hy⟩ : ∃ y, Pl.xz z kk = y := ⟨_, rfl⟩
      rw [hy] at Hz ⊢
      have Hinv5 := Lib.hid (Hinv4.out.below hb5)
      have Hown5 := Lib.hid Hinv5.out.2.1
      obtain ⟨Av, cv, rfl⟩ := own_form Hown5.out
      have Hlen := Lib.hid (show m.length ≤ 29 by have := Hmk.out; omega)
      have hml := Hlen.out
      have hs5 := Hinv5.out.2.2.2.2.1.lt
      clear ho5 hb5 hy Hinv4 hk0
      go_wp2_with (at_builtin; refine wpList_append_own _ rfl (.tmp 32) (.tmp 34) 52 rfl (w2.heap.size + 1) 44 i0 _ 5 40 Tryd.underlying52 hi0 hz0 hz1 hz2 rfl (by omega) _ _ _ rfl ((Hown5.out.alloc _).alloc _) ⟨w5.heap.size + 1, 0, none⟩ 1 1 [I (gI y 0), I (gI y 1), I (gI y 2), I (gI y 3), I (gI y 4)] rfl rfl ?j1 ?j2 ?j3 ?j4 ?j5 ?_)
      case j1 => have := cells_new (w5.alloc (.cells #[I (gI y 0), I (gI y 1), I (gI y 2), I (gI y 3), I (gI y 4)] 44)) #[I (gI y 0), I (gI y 1), I (gI y 2), I (gI y 3), I (gI y 4)] 44; rw [World.size_alloc] at this; exact this
      case j2 => intro u hu; simp at hu; rcases hu with rfl | rfl | rfl | rfl | rfl <;> rfl
      case j3 => unfold maxLen; omega
      case j4 => omega
      case j5 => simp; omega
      intro v6 w6 hown6 hgr6 _
      have hown6' : w6.ownsRow (w2.heap.size + 1) 44 5 v6 (m ++ [y]).length ((rows (m ++ [y])).map I) := by rw [rows_snoc, List.map_append, List.length_append]; exact hown6
      have Hinv6 := Lib.hid (((Hinv5.out.below ((Below.refl _ _).alloc (Nat.le_refl _) _)).below ((Below.refl _ _).alloc (Nat.le_refl _) _)).row hown6' hgr6)
      clear hown6 hown6' hgr6 Hown5 Hinv5
      go_wp2
      go_roundw
      case rel => exact ⟨k + 1, m ++ [y], by omega, by go_num, by rw [List.length_append, Hmk.out]; rfl, okA_snoc Hok.out Hz.out, Hinv6.out⟩
      case measure => simp [intOf]; omega
    · obtain ⟨h1, h2, h3, h4, h5, h6, h7⟩ := Hinv3.out
      have D := Lib.hid h5
      have X := Lib.hid h4
      have O := Lib.hid h2
      have Rr := Lib.hid h3.1
      have Bb := Lib.hid h6
      have d0 : w3.cell? ⟨w2.heap.size, 0, none⟩ = some (I p) := h5.cell 0
      have d1 : w3.cell? ⟨w2.heap.size, 1, none⟩ = some (I f) := h5.cell 1
      have d2 : w3.cell? ⟨w2.heap.size, 2, none⟩ = some (I t) := h5.cell 2
      have d3 : w3.cell? ⟨w2.heap.size, 3, none⟩ = some (I l) := h5.cell 3
      have d4 : w3.cell? ⟨w2.heap.size, 4, none⟩ = some (.slice A' m' c') := h5.cell 4
      have x0 : w3.cell? ⟨w.heap.size, 0, none⟩ = some (I 0) := h4.cell 0
      have x1 : w3.cell? ⟨w.heap.size, 1, none⟩ = some (I 0) := h4.cell 1
      have x2 : w3.cell? ⟨w.heap.size, 2, none⟩ = some (I 0) := h4.cell 2
      have x3 : w3.cell? ⟨w.heap.size, 3, none⟩ = some (I 0) := h4.cell 3
      have x4 : w3.cell? ⟨w.heap.size, 4, none⟩ = some (.slice none 0 0) := h4.cell 4
      have y0 : w3.frozen? ⟨w.heap.size, 0, none⟩ = false := h4.frozen 0
      have y1 : w3.frozen? ⟨w.heap.size, 1, none⟩ = false := h4.frozen 1
      have y2 : w3.frozen? ⟨w.heap.size, 2, none⟩ = false := h4.frozen 2
      have y3 : w3.frozen? ⟨w.heap.size, 3, none⟩ = false := h4.frozen 3
      have y4 : w3.frozen? ⟨w.heap.size, 4, none⟩ = false := h4.frozen 4
      clear h1 h2 h3 h4 h5 h6 h7
      go_wp2
      have hB : Below w.heap.size w _ := (((((Bb.out.setCell (p := ⟨w.heap.size, 0, none⟩) (Nat.le_refl _) (I p)).setCell (p := ⟨w.heap.size, 1, none⟩) (Nat.le_refl _) (I f)).setCell (p := ⟨w.heap.size, 2, none⟩) (Nat.le_refl _) (I t)).setCell (p := ⟨w.heap.size, 3, none⟩) (Nat.le_refl _) (I l)).setCell (p := ⟨w.heap.size, 4, none⟩) (Nat.le_refl _) (.slice A' m' c'))
      refine bodyPost_ret (ret_cf2 Tryd.results44 (p := 2) (u := 3) (g := w.heap.size) rfl (set5' X.out (I p) (I f) (I t) (I l) (.slice A' m' c'))) rfl (ds_mk HCf.out (by have := Hmk.out; omega) Hok.out (own_mono (own_set (own_set (own_set (own_set (own_set Rr.out (by omega)) (by omega)) (by omega)) (by omega)) (by omega)) (by omega)) (own_mono (own_set (own_set (own_set (own_set (own_set O.out (by omega)) (by omega)) (by omega)) (by omega)) (by omega)) (by omega)) hB)
end Go.Proofs.YtebiefhfhjgmaaaDoor.Dr
