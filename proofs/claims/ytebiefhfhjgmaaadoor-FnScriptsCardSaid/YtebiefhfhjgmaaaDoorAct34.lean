/- spec.l34Act: what it hands back: an act of some kind, with small numbers; of what is old the cursor alone is written. -/
import Derived.Test.YtebiefhfhjgmaaaDoorDraw
import Derived.Test.YtebiefhfhjgmaaaDoorPlain2
namespace Go.Proofs.YtebiefhfhjgmaaaDoor.Dr
set_option maxRecDepth 100000
open Go.RowKit Mm Bt Ac AcM

/-- An act of a kind, with numbers that have a text. -/
def Small (z : List Int) : Prop := ∃ k : Nat, 1 ≤ k ∧ k ≤ 10 ∧ gI z 0 = (k : Int) ∧ ∀ j, 0 ≤ gI z j ∧ gI z j ≤ 1000000000
theorem small_mk (k : Nat) (a b c d : Int) (h1 : 1 ≤ k) (h2 : k ≤ 10) (ha : 0 ≤ a ∧ a ≤ 1000000000) (hb : 0 ≤ b ∧ b ≤ 1000000000) (hc : 0 ≤ c ∧ c ≤ 1000000000) (hd : 0 ≤ d ∧ d ≤ 1000000000) : Small [(k : Int), a, b, c, d] := by
  refine ⟨k, h1, h2, rfl, fun j => ?_⟩
  rcases (show j = 0 ∨ j = 1 ∨ j = 2 ∨ j = 3 ∨ j = 4 ∨ 5 ≤ j by omega) with rfl | rfl | rfl | rfl | rfl | hj
  · show 0 ≤ (k : Int) ∧ (k : Int) ≤ 1000000000; omega
  · exact ha
  · exact hb
  · exact hc
  · exact hd
  · have : gI [(k : Int), a, b, c, d] j = 0 := by unfold gI List.getD; rw [List.getElem?_eq_none (by simpa using hj)]; rfl
    rw [this]; decide
/-- An act was drawn. -/
def ActRet (g : Nat) (A : Option Addr) (n c : Nat) (zs : List Int) (w : World) (e : Ending) (w' : World) : Prop :=
  ∃ z, Small z ∧ e = .returned (Agg z) ∧ Cur w' g A n c zs ∧ w.grownBy w' (some g)
theorem cur_low {w w' : World} {g : Nat} {A : Option Addr} {n c : Nat} {zs : List Int} (h : Cur w g A n c zs) (hb : Below (g + 1) w w') : Cur w' g A n c zs := by
  obtain ⟨⟨i, x, hi, hk⟩, hr, hn⟩ := h
  exact ⟨⟨i, x, hi, hk.below hb (by omega)⟩, hr.below (hb.mono (by omega)), hn⟩
theorem blk_grown {w w' : World} {b g : Nat} {t : TypeId} {cs : Array Value} (h : Blk w b t cs) (hg : w.grownBy w' (some g)) (hne : b ≠ g) : Blk w' b t cs :=
  (hg.block b h.lt (by intro e; injection e with e; exact hne e)).trans h
theorem grown_below {a w w' : World} {g : Nat} (h : a.grownBy w (some g)) (hb : Below a.heap.size w w') : a.grownBy w' (some g) :=
  ⟨hb.os.trans h.os, hb.tape.trans h.tape, hb.output.trans h.output, Nat.le_trans h.size hb.size, fun i hi hne => (hb.block i hi).trans (h.block i hi hne)⟩
theorem results_cell1 {fn : Func} {p : Tmp} {ty : TypeId} (h : fn.results = #[.cell p ty]) (tmps : Array Value) (P : Program) (w : World) :
    (results fn tmps).run P w = ((asAddr (tmps.getD p undef)).run P w).andThen fun a w₁ => (loadVar ty a).run P w₁ := by
  simp only [results, h]
  simp [Sem.run_bind, Result.andThen]
theorem ret_act1 {fn : Func} {p : Tmp} (h : fn.results = #[.cell p 44]) {tmps : Array Value} {w : World} {g : Nat} {x0 x1 x2 x3 x4 : Int} (hp : tmps.getD p undef = .pointer (some ⟨g, 0, none⟩)) (hb : Blk w g 44 #[I x0, I x1, I x2, I x3, I x4]) :
    (results fn tmps).run Tryd.prog w = .ok (.agg #[I x0, I x1, I x2, I x3, I x4]) w := by
  rw [results_cell1 h, hp]
  simp [asAddr, load_act w g x0 x1 x2 x3 x4 hb]
theorem actRet_mk {g : Nat} {A : Option Addr} {n c : Nat} {zs : List Int} {w w' : World} {k : Nat} {a b d f : Int} (h1 : 1 ≤ k) (h2 : k ≤ 10) (ha : 0 ≤ a ∧ a ≤ 1000000000) (hb : 0 ≤ b ∧ b ≤ 1000000000) (hc : 0 ≤ d ∧ d ≤ 1000000000) (hd : 0 ≤ f ∧ f ≤ 1000000000) (hcu : Cur w' g A n c zs) (hg : w.grownBy w' (some g)) :
    ActRet g A n c zs w (.returned (.agg #[I (k : Int), I a, I b, I d, I f])) w' := ⟨[(k : Int), a, b, d, f], small_mk k a b d f h1 h2 ha hb hc hd, rfl, hcu, hg⟩
theorem pick_lit (zl : List Int) (m gl : Nat) (t : TypeId) (cs : Array Value) (hcs : cs = (zl.map I).toArray) (hm : m = zl.length) (hm1 : 1 ≤ m) (hm2 : m ≤ 1000) (g : Nat) (A : Option Addr) (n c cl : Nat) (zs : List Int) (w : World) (h : Cur w g A n c zs) (hl : Blk w gl t cs) (hne : gl ≠ g) :
    Calls Tryd.prog 49 #[.pointer (some ⟨g, 0, none⟩), .slice (some ⟨gl, 0, none⟩) m cl] w (Picked zl g A n c zs w) := pick_any zl m gl t hm hm1 hm2 g A n c cl zs w h (by rw [← hcs]; exact hl) hne
def inR (l : List Int) : Prop := ∀ k, 0 ≤ gI l k ∧ gI l k ≤ 1000000000
theorem inR_of (l : List Int) (h : ∀ x ∈ l, 0 ≤ x ∧ x ≤ 1000000000) : inR l := fun k => by
  by_cases hk : k < l.length
  · exact h _ (by simp [gI, List.getD, hk])
  · have : gI l k = 0 := by unfold gI List.getD; rw [List.getElem?_eq_none (by omega)]; rfl
    rw [this]; decide

set_option maxHeartbeats 40000000 in
theorem act_any    (ids : Int) (h1 : 1 ≤ ids) (h2 : ids ≤ 1000) (g : Nat) (A : Option Addr) (n c : Nat) (zs : List Int) (w : World) (h : Cur w g A n c zs) :
    Calls Tryd.prog 75 #[.pointer (some ⟨g, 0, none⟩), .int .i64 ids] w (ActRet g A n c zs w) := by
  have hgl := h.lt
  go_enter Tryd.func75, Tryd.ntmps75
  go_wp2_with fail
  refine (below_any 3 (by decide) (by decide) g A n c zs _ (cur_low h ((Below.refl _ _).alloc (by omega) _))).mono ?_
  rintro e w1 ⟨x, hx0, hx1, rfl, hc1, hg1⟩
  have hb1 := blk_grown (Blk.new w 44 #[I 0, I 0, I 0, I 0, I 0]) hg1 (by omega)
  have hG1 : w.grownBy w1 (some g) := grown_tr (grown_of_below ((Below.refl _ _).alloc (Nat.le_refl _) _) _) hg1
  have Hb1 := Lib.hid hb1
  have HG1 := Lib.hid hG1
  have hs1 := hb1.lt
  clear hb1 hG1 hg1 h
  go_wp2_with fail
  refine (below_any ids h1 (by omega) g A n c zs _ hc1).mono ?_
  rintro e w2 ⟨y, hy0, hy1, rfl, hc2, hg2⟩
  have Hb2 := Lib.hid (blk_grown Hb1.out hg2 (by omega))
  have HG2 := Lib.hid (grown_tr HG1.out hg2)
  have hs2 := Hb2.out.lt
  clear hc1 hg2 Hb1 HG1
  go_wp2_with fail
  refine (below_any 20 (by decide) (by decide) g A n c zs _ (cur_low hc2 ((Below.refl _ _).alloc (by omega) _))).mono ?_
  rintro e w3 ⟨v, hv0, hv1, rfl, hc3, hg3⟩
  have h5 := blk_grown (Blk.new w2 44 #[I 0, I x, I (1 + y), I 0, I 0]) hg3 (by omega)
  have Hb3 := Lib.hid (blk_grown (Hb2.out.alloc (.cells #[I 0, I x, I (1 + y), I 0, I 0] 44)) hg3 (by omega))
  have HG3 : Hid (w.grownBy w3 (some g)) := grown_tr (grown_below HG2.out ((Below.refl _ _).alloc HG2.out.size _)) hg3
  obtain ⟨g5, hg5⟩ : ∃ g5, w2.heap.size = g5 := ⟨_, rfl⟩
  rw [hg5] at h5
  have Hg5 := Lib.hid hg5
  have H5 := Lib.hid h5
  have Hc3 := Lib.hid hc3
  have hs3 := h5.lt
  have hw5 : w.heap.size < g5 := by omega
  have hgg : g < w.heap.size := hgl
  have hx : 0 ≤ x ∧ x ≤ 1000000000 := by omega
  have hy : 0 ≤ 1 + y ∧ 1 + y ≤ 1000000000 := by omega
  rcases (show v = 0 ∨ v = 1 ∨ v = 2 ∨ v = 3 ∨ v = 4 ∨ v = 5 ∨ v = 6 ∨ v = 7 ∨ v = 8 ∨ v = 9 ∨ v = 10 ∨ v = 11 ∨ v = 12 ∨ v = 13 ∨ v = 14 ∨ v = 15 ∨ v = 16 ∨ v = 17 ∨ v = 18 ∨ v = 19 by omega) with rfl | rfl | rfl | rfl | rfl | rfl | rfl | rfl | rfl | rfl | rfl | rfl | rfl | rfl | rfl | rfl | rfl | rfl | rfl | rfl

  · have p0w3 : w3.cell? ⟨g5, 0, none⟩ = some (I 0) := H5.out.cell 0
    have p1w3 : w3.cell? ⟨g5, 1, none⟩ = some (I x) := H5.out.cell 1
    have p2w3 : w3.cell? ⟨g5, 2, none⟩ = some (I (1 + y)) := H5.out.cell 2
    have p3w3 : w3.cell? ⟨g5, 3, none⟩ = some (I 0) := H5.out.cell 3
    have p4w3 : w3.cell? ⟨g5, 4, none⟩ = some (I 0) := H5.out.cell 4
    have q0w3 : w3.frozen? ⟨g5, 0, none⟩ = false := H5.out.frozen 0
    have q1w3 : w3.frozen? ⟨g5, 1, none⟩ = false := H5.out.frozen 1
    have q2w3 : w3.frozen? ⟨g5, 2, none⟩ = false := H5.out.frozen 2
    have q3w3 : w3.frozen? ⟨g5, 3, none⟩ = false := H5.out.frozen 3
    have q4w3 : w3.frozen? ⟨g5, 4, none⟩ = false := H5.out.frozen 4
    have r0w3 : w3.cell? ⟨w.heap.size, 0, none⟩ = some (I 0) := Hb3.out.cell 0
    have r1w3 : w3.cell? ⟨w.heap.size, 1, none⟩ = some (I 0) := Hb3.out.cell 1
    have r2w3 : w3.cell? ⟨w.heap.size, 2, none⟩ = some (I 0) := Hb3.out.cell 2
    have r3w3 : w3.cell? ⟨w.heap.size, 3, none⟩ = some (I 0) := Hb3.out.cell 3
    have r4w3 : w3.cell? ⟨w.heap.size, 4, none⟩ = some (I 0) := Hb3.out.cell 4
    have s0w3 : w3.frozen? ⟨w.heap.size, 0, none⟩ = false := Hb3.out.frozen 0
    have s1w3 : w3.frozen? ⟨w.heap.size, 1, none⟩ = false := Hb3.out.frozen 1
    have s2w3 : w3.frozen? ⟨w.heap.size, 2, none⟩ = false := Hb3.out.frozen 2
    have s3w3 : w3.frozen? ⟨w.heap.size, 3, none⟩ = false := Hb3.out.frozen 3
    have s4w3 : w3.frozen? ⟨w.heap.size, 4, none⟩ = false := Hb3.out.frozen 4
    go_wp2_with fail
    have hB3 : Below w.heap.size w3 _ := (((Below.refl _ _).setCell (p := ⟨g5, 0, none⟩) (Nat.le_of_lt hw5) (I 1)).alloc (by simp [World.setCell]; omega) (.cells #[I 1, I 1, I 2, I 2, I 3, I 4, I 4, I 5, I 8, I 9, I 20] 3))
    refine (pick_lit [1, 1, 2, 2, 3, 4, 4, 5, 8, 9, 20] 11 w3.heap.size 3 #[I 1, I 1, I 2, I 2, I 3, I 4, I 4, I 5, I 8, I 9, I 20] rfl rfl (by decide) (by decide) g A n c 11 zs _ (cur_low Hc3.out (hB3.mono (by omega))) (Pl.blk_new' (by simp [World.setCell])) (by omega)).mono ?_
    rintro e w4 ⟨q, hq, rfl, hc4, hg4⟩
    have h54 : Blk w4 g5 44 #[I 1, I x, I (1 + y), I 0, I 0] := blk_grown ((H5.out.set_ 0 (I 1)).alloc (.cells #[I 1, I 1, I 2, I 2, I 3, I 4, I 4, I 5, I 8, I 9, I 20] 3)) hg4 (by omega)
    have Hb4 := Lib.hid (blk_grown ((Hb3.out.far (p := ⟨g5, 0, none⟩) (Nat.ne_of_lt hw5) (I 1)).alloc (.cells #[I 1, I 1, I 2, I 2, I 3, I 4, I 4, I 5, I 8, I 9, I 20] 3)) hg4 (by omega))
    have H54 := Lib.hid h54
    have HG4 := Lib.hid (grown_tr (grown_below HG3.out hB3) hg4)
    have Hc4 := Lib.hid hc4
    have hs4 := h54.lt
    have hql := inR_of [1, 1, 2, 2, 3, 4, 4, 5, 8, 9, 20] (by decide) q
    obtain ⟨u, hu⟩ : ∃ u, gI [1, 1, 2, 2, 3, 4, 4, 5, 8, 9, 20] q = u := ⟨_, rfl⟩
    rw [hu] at hql ⊢
    clear hu hq hc4 hg4 h54 hB3 p0w3 p1w3 p2w3 p3w3 p4w3 q0w3 q1w3 q2w3 q3w3 q4w3 r0w3 r1w3 r2w3 r3w3 r4w3 s0w3 s1w3 s2w3 s3w3 s4w3
    have p0w4 : w4.cell? ⟨g5, 0, none⟩ = some (I 1) := H54.out.cell 0
    have p1w4 : w4.cell? ⟨g5, 1, none⟩ = some (I x) := H54.out.cell 1
    have p2w4 : w4.cell? ⟨g5, 2, none⟩ = some (I (1 + y)) := H54.out.cell 2
    have p3w4 : w4.cell? ⟨g5, 3, none⟩ = some (I 0) := H54.out.cell 3
    have p4w4 : w4.cell? ⟨g5, 4, none⟩ = some (I 0) := H54.out.cell 4
    have q0w4 : w4.frozen? ⟨g5, 0, none⟩ = false := H54.out.frozen 0
    have q1w4 : w4.frozen? ⟨g5, 1, none⟩ = false := H54.out.frozen 1
    have q2w4 : w4.frozen? ⟨g5, 2, none⟩ = false := H54.out.frozen 2
    have q3w4 : w4.frozen? ⟨g5, 3, none⟩ = false := H54.out.frozen 3
    have q4w4 : w4.frozen? ⟨g5, 4, none⟩ = false := H54.out.frozen 4
    have r0w4 : w4.cell? ⟨w.heap.size, 0, none⟩ = some (I 0) := Hb4.out.cell 0
    have r1w4 : w4.cell? ⟨w.heap.size, 1, none⟩ = some (I 0) := Hb4.out.cell 1
    have r2w4 : w4.cell? ⟨w.heap.size, 2, none⟩ = some (I 0) := Hb4.out.cell 2
    have r3w4 : w4.cell? ⟨w.heap.size, 3, none⟩ = some (I 0) := Hb4.out.cell 3
    have r4w4 : w4.cell? ⟨w.heap.size, 4, none⟩ = some (I 0) := Hb4.out.cell 4
    have s0w4 : w4.frozen? ⟨w.heap.size, 0, none⟩ = false := Hb4.out.frozen 0
    have s1w4 : w4.frozen? ⟨w.heap.size, 1, none⟩ = false := Hb4.out.frozen 1
    have s2w4 : w4.frozen? ⟨w.heap.size, 2, none⟩ = false := Hb4.out.frozen 2
    have s3w4 : w4.frozen? ⟨w.heap.size, 3, none⟩ = false := Hb4.out.frozen 3
    have s4w4 : w4.frozen? ⟨w.heap.size, 4, none⟩ = false := Hb4.out.frozen 4
    go_wp2
    have hB : Below w.heap.size w4 _ := (((((((Below.refl _ _).setCell (p := ⟨g5, 2, none⟩) (Nat.le_of_lt hw5) (I u)).setCell (p := ⟨w.heap.size, 0, none⟩) (Nat.le_refl _) (I 1)).setCell (p := ⟨w.heap.size, 1, none⟩) (Nat.le_refl _) (I x)).setCell (p := ⟨w.heap.size, 2, none⟩) (Nat.le_refl _) (I u)).setCell (p := ⟨w.heap.size, 3, none⟩) (Nat.le_refl _) (I 0)).setCell (p := ⟨w.heap.size, 4, none⟩) (Nat.le_refl _) (I 0))
    refine bodyPost_ret (ret_act1 Tryd.results75 (p := 4) (g := w.heap.size) rfl (Blk.set5 (Hb4.out.far (p := ⟨g5, 2, none⟩) (Nat.ne_of_lt hw5) (I u)) (I 1) (I x) (I u) (I 0) (I 0))) rfl (actRet_mk (k := 1) (by decide) (by decide) hx hql (by decide) (by decide) (cur_low Hc4.out (hB.mono (by omega))) (grown_below HG4.out hB))
  · have p0w3 : w3.cell? ⟨g5, 0, none⟩ = some (I 0) := H5.out.cell 0
    have p1w3 : w3.cell? ⟨g5, 1, none⟩ = some (I x) := H5.out.cell 1
    have p2w3 : w3.cell? ⟨g5, 2, none⟩ = some (I (1 + y)) := H5.out.cell 2
    have p3w3 : w3.cell? ⟨g5, 3, none⟩ = some (I 0) := H5.out.cell 3
    have p4w3 : w3.cell? ⟨g5, 4, none⟩ = some (I 0) := H5.out.cell 4
    have q0w3 : w3.frozen? ⟨g5, 0, none⟩ = false := H5.out.frozen 0
    have q1w3 : w3.frozen? ⟨g5, 1, none⟩ = false := H5.out.frozen 1
    have q2w3 : w3.frozen? ⟨g5, 2, none⟩ = false := H5.out.frozen 2
    have q3w3 : w3.frozen? ⟨g5, 3, none⟩ = false := H5.out.frozen 3
    have q4w3 : w3.frozen? ⟨g5, 4, none⟩ = false := H5.out.frozen 4
    have r0w3 : w3.cell? ⟨w.heap.size, 0, none⟩ = some (I 0) := Hb3.out.cell 0
    have r1w3 : w3.cell? ⟨w.heap.size, 1, none⟩ = some (I 0) := Hb3.out.cell 1
    have r2w3 : w3.cell? ⟨w.heap.size, 2, none⟩ = some (I 0) := Hb3.out.cell 2
    have r3w3 : w3.cell? ⟨w.heap.size, 3, none⟩ = some (I 0) := Hb3.out.cell 3
    have r4w3 : w3.cell? ⟨w.heap.size, 4, none⟩ = some (I 0) := Hb3.out.cell 4
    have s0w3 : w3.frozen? ⟨w.heap.size, 0, none⟩ = false := Hb3.out.frozen 0
    have s1w3 : w3.frozen? ⟨w.heap.size, 1, none⟩ = false := Hb3.out.frozen 1
    have s2w3 : w3.frozen? ⟨w.heap.size, 2, none⟩ = false := Hb3.out.frozen 2
    have s3w3 : w3.frozen? ⟨w.heap.size, 3, none⟩ = false := Hb3.out.frozen 3
    have s4w3 : w3.frozen? ⟨w.heap.size, 4, none⟩ = false := Hb3.out.frozen 4
    go_wp2_with fail
    have hB3 : Below w.heap.size w3 _ := (((Below.refl _ _).setCell (p := ⟨g5, 0, none⟩) (Nat.le_of_lt hw5) (I 1)).alloc (by simp [World.setCell]; omega) (.cells #[I 1, I 1, I 2, I 2, I 3, I 4, I 4, I 5, I 8, I 9, I 20] 3))
    refine (pick_lit [1, 1, 2, 2, 3, 4, 4, 5, 8, 9, 20] 11 w3.heap.size 3 #[I 1, I 1, I 2, I 2, I 3, I 4, I 4, I 5, I 8, I 9, I 20] rfl rfl (by decide) (by decide) g A n c 11 zs _ (cur_low Hc3.out (hB3.mono (by omega))) (Pl.blk_new' (by simp [World.setCell])) (by omega)).mono ?_
    rintro e w4 ⟨q, hq, rfl, hc4, hg4⟩
    have h54 : Blk w4 g5 44 #[I 1, I x, I (1 + y), I 0, I 0] := blk_grown ((H5.out.set_ 0 (I 1)).alloc (.cells #[I 1, I 1, I 2, I 2, I 3, I 4, I 4, I 5, I 8, I 9, I 20] 3)) hg4 (by omega)
    have Hb4 := Lib.hid (blk_grown ((Hb3.out.far (p := ⟨g5, 0, none⟩) (Nat.ne_of_lt hw5) (I 1)).alloc (.cells #[I 1, I 1, I 2, I 2, I 3, I 4, I 4, I 5, I 8, I 9, I 20] 3)) hg4 (by omega))
    have H54 := Lib.hid h54
    have HG4 := Lib.hid (grown_tr (grown_below HG3.out hB3) hg4)
    have Hc4 := Lib.hid hc4
    have hs4 := h54.lt
    have hql := inR_of [1, 1, 2, 2, 3, 4, 4, 5, 8, 9, 20] (by decide) q
    obtain ⟨u, hu⟩ : ∃ u, gI [1, 1, 2, 2, 3, 4, 4, 5, 8, 9, 20] q = u := ⟨_, rfl⟩
    rw [hu] at hql ⊢
    clear hu hq hc4 hg4 h54 hB3 p0w3 p1w3 p2w3 p3w3 p4w3 q0w3 q1w3 q2w3 q3w3 q4w3 r0w3 r1w3 r2w3 r3w3 r4w3 s0w3 s1w3 s2w3 s3w3 s4w3
    have p0w4 : w4.cell? ⟨g5, 0, none⟩ = some (I 1) := H54.out.cell 0
    have p1w4 : w4.cell? ⟨g5, 1, none⟩ = some (I x) := H54.out.cell 1
    have p2w4 : w4.cell? ⟨g5, 2, none⟩ = some (I (1 + y)) := H54.out.cell 2
    have p3w4 : w4.cell? ⟨g5, 3, none⟩ = some (I 0) := H54.out.cell 3
    have p4w4 : w4.cell? ⟨g5, 4, none⟩ = some (I 0) := H54.out.cell 4
    have q0w4 : w4.frozen? ⟨g5, 0, none⟩ = false := H54.out.frozen 0
    have q1w4 : w4.frozen? ⟨g5, 1, none⟩ = false := H54.out.frozen 1
    have q2w4 : w4.frozen? ⟨g5, 2, none⟩ = false := H54.out.frozen 2
    have q3w4 : w4.frozen? ⟨g5, 3, none⟩ = false := H54.out.frozen 3
    have q4w4 : w4.frozen? ⟨g5, 4, none⟩ = false := H54.out.frozen 4
    have r0w4 : w4.cell? ⟨w.heap.size, 0, none⟩ = some (I 0) := Hb4.out.cell 0
    have r1w4 : w4.cell? ⟨w.heap.size, 1, none⟩ = some (I 0) := Hb4.out.cell 1
    have r2w4 : w4.cell? ⟨w.heap.size, 2, none⟩ = some (I 0) := Hb4.out.cell 2
    have r3w4 : w4.cell? ⟨w.heap.size, 3, none⟩ = some (I 0) := Hb4.out.cell 3
    have r4w4 : w4.cell? ⟨w.heap.size, 4, none⟩ = some (I 0) := Hb4.out.cell 4
    have s0w4 : w4.frozen? ⟨w.heap.size, 0, none⟩ = false := Hb4.out.frozen 0
    have s1w4 : w4.frozen? ⟨w.heap.size, 1, none⟩ = false := Hb4.out.frozen 1
    have s2w4 : w4.frozen? ⟨w.heap.size, 2, none⟩ = false := Hb4.out.frozen 2
    have s3w4 : w4.frozen? ⟨w.heap.size, 3, none⟩ = false := Hb4.out.frozen 3
    have s4w4 : w4.frozen? ⟨w.heap.size, 4, none⟩ = false := Hb4.out.frozen 4
    go_wp2
    have hB : Below w.heap.size w4 _ := (((((((Below.refl _ _).setCell (p := ⟨g5, 2, none⟩) (Nat.le_of_lt hw5) (I u)).setCell (p := ⟨w.heap.size, 0, none⟩) (Nat.le_refl _) (I 1)).setCell (p := ⟨w.heap.size, 1, none⟩) (Nat.le_refl _) (I x)).setCell (p := ⟨w.heap.size, 2, none⟩) (Nat.le_refl _) (I u)).setCell (p := ⟨w.heap.size, 3, none⟩) (Nat.le_refl _) (I 0)).setCell (p := ⟨w.heap.size, 4, none⟩) (Nat.le_refl _) (I 0))
    refine bodyPost_ret (ret_act1 Tryd.results75 (p := 4) (g := w.heap.size) rfl (Blk.set5 (Hb4.out.far (p := ⟨g5, 2, none⟩) (Nat.ne_of_lt hw5) (I u)) (I 1) (I x) (I u) (I 0) (I 0))) rfl (actRet_mk (k := 1) (by decide) (by decide) hx hql (by decide) (by decide) (cur_low Hc4.out (hB.mono (by omega))) (grown_below HG4.out hB))
  · have p0w3 : w3.cell? ⟨g5, 0, none⟩ = some (I 0) := H5.out.cell 0
    have p1w3 : w3.cell? ⟨g5, 1, none⟩ = some (I x) := H5.out.cell 1
    have p2w3 : w3.cell? ⟨g5, 2, none⟩ = some (I (1 + y)) := H5.out.cell 2
    have p3w3 : w3.cell? ⟨g5, 3, none⟩ = some (I 0) := H5.out.cell 3
    have p4w3 : w3.cell? ⟨g5, 4, none⟩ = some (I 0) := H5.out.cell 4
    have q0w3 : w3.frozen? ⟨g5, 0, none⟩ = false := H5.out.frozen 0
    have q1w3 : w3.frozen? ⟨g5, 1, none⟩ = false := H5.out.frozen 1
    have q2w3 : w3.frozen? ⟨g5, 2, none⟩ = false := H5.out.frozen 2
    have q3w3 : w3.frozen? ⟨g5, 3, none⟩ = false := H5.out.frozen 3
    have q4w3 : w3.frozen? ⟨g5, 4, none⟩ = false := H5.out.frozen 4
    have r0w3 : w3.cell? ⟨w.heap.size, 0, none⟩ = some (I 0) := Hb3.out.cell 0
    have r1w3 : w3.cell? ⟨w.heap.size, 1, none⟩ = some (I 0) := Hb3.out.cell 1
    have r2w3 : w3.cell? ⟨w.heap.size, 2, none⟩ = some (I 0) := Hb3.out.cell 2
    have r3w3 : w3.cell? ⟨w.heap.size, 3, none⟩ = some (I 0) := Hb3.out.cell 3
    have r4w3 : w3.cell? ⟨w.heap.size, 4, none⟩ = some (I 0) := Hb3.out.cell 4
    have s0w3 : w3.frozen? ⟨w.heap.size, 0, none⟩ = false := Hb3.out.frozen 0
    have s1w3 : w3.frozen? ⟨w.heap.size, 1, none⟩ = false := Hb3.out.frozen 1
    have s2w3 : w3.frozen? ⟨w.heap.size, 2, none⟩ = false := Hb3.out.frozen 2
    have s3w3 : w3.frozen? ⟨w.heap.size, 3, none⟩ = false := Hb3.out.frozen 3
    have s4w3 : w3.frozen? ⟨w.heap.size, 4, none⟩ = false := Hb3.out.frozen 4
    go_wp2_with fail
    have hB3 : Below w.heap.size w3 _ := (((Below.refl _ _).setCell (p := ⟨g5, 0, none⟩) (Nat.le_of_lt hw5) (I 1)).alloc (by simp [World.setCell]; omega) (.cells #[I 1, I 1, I 2, I 2, I 3, I 4, I 4, I 5, I 8, I 9, I 20] 3))
    refine (pick_lit [1, 1, 2, 2, 3, 4, 4, 5, 8, 9, 20] 11 w3.heap.size 3 #[I 1, I 1, I 2, I 2, I 3, I 4, I 4, I 5, I 8, I 9, I 20] rfl rfl (by decide) (by decide) g A n c 11 zs _ (cur_low Hc3.out (hB3.mono (by omega))) (Pl.blk_new' (by simp [World.setCell])) (by omega)).mono ?_
    rintro e w4 ⟨q, hq, rfl, hc4, hg4⟩
    have h54 : Blk w4 g5 44 #[I 1, I x, I (1 + y), I 0, I 0] := blk_grown ((H5.out.set_ 0 (I 1)).alloc (.cells #[I 1, I 1, I 2, I 2, I 3, I 4, I 4, I 5, I 8, I 9, I 20] 3)) hg4 (by omega)
    have Hb4 := Lib.hid (blk_grown ((Hb3.out.far (p := ⟨g5, 0, none⟩) (Nat.ne_of_lt hw5) (I 1)).alloc (.cells #[I 1, I 1, I 2, I 2, I 3, I 4, I 4, I 5, I 8, I 9, I 20] 3)) hg4 (by omega))
    have H54 := Lib.hid h54
    have HG4 := Lib.hid (grown_tr (grown_below HG3.out hB3) hg4)
    have Hc4 := Lib.hid hc4
    have hs4 := h54.lt
    have hql := inR_of [1, 1, 2, 2, 3, 4, 4, 5, 8, 9, 20] (by decide) q
    obtain ⟨u, hu⟩ : ∃ u, gI [1, 1, 2, 2, 3, 4, 4, 5, 8, 9, 20] q = u := ⟨_, rfl⟩
    rw [hu] at hql ⊢
    clear hu hq hc4 hg4 h54 hB3 p0w3 p1w3 p2w3 p3w3 p4w3 q0w3 q1w3 q2w3 q3w3 q4w3 r0w3 r1w3 r2w3 r3w3 r4w3 s0w3 s1w3 s2w3 s3w3 s4w3
    have p0w4 : w4.cell? ⟨g5, 0, none⟩ = some (I 1) := H54.out.cell 0
    have p1w4 : w4.cell? ⟨g5, 1, none⟩ = some (I x) := H54.out.cell 1
    have p2w4 : w4.cell? ⟨g5, 2, none⟩ = some (I (1 + y)) := H54.out.cell 2
    have p3w4 : w4.cell? ⟨g5, 3, none⟩ = some (I 0) := H54.out.cell 3
    have p4w4 : w4.cell? ⟨g5, 4, none⟩ = some (I 0) := H54.out.cell 4
    have q0w4 : w4.frozen? ⟨g5, 0, none⟩ = false := H54.out.frozen 0
    have q1w4 : w4.frozen? ⟨g5, 1, none⟩ = false := H54.out.frozen 1
    have q2w4 : w4.frozen? ⟨g5, 2, none⟩ = false := H54.out.frozen 2
    have q3w4 : w4.frozen? ⟨g5, 3, none⟩ = false := H54.out.frozen 3
    have q4w4 : w4.frozen? ⟨g5, 4, none⟩ = false := H54.out.frozen 4
    have r0w4 : w4.cell? ⟨w.heap.size, 0, none⟩ = some (I 0) := Hb4.out.cell 0
    have r1w4 : w4.cell? ⟨w.heap.size, 1, none⟩ = some (I 0) := Hb4.out.cell 1
    have r2w4 : w4.cell? ⟨w.heap.size, 2, none⟩ = some (I 0) := Hb4.out.cell 2
    have r3w4 : w4.cell? ⟨w.heap.size, 3, none⟩ = some (I 0) := Hb4.out.cell 3
    have r4w4 : w4.cell? ⟨w.heap.size, 4, none⟩ = some (I 0) := Hb4.out.cell 4
    have s0w4 : w4.frozen? ⟨w.heap.size, 0, none⟩ = false := Hb4.out.frozen 0
    have s1w4 : w4.frozen? ⟨w.heap.size, 1, none⟩ = false := Hb4.out.frozen 1
    have s2w4 : w4.frozen? ⟨w.heap.size, 2, none⟩ = false := Hb4.out.frozen 2
    have s3w4 : w4.frozen? ⟨w.heap.size, 3, none⟩ = false := Hb4.out.frozen 3
    have s4w4 : w4.frozen? ⟨w.heap.size, 4, none⟩ = false := Hb4.out.frozen 4
    go_wp2
    have hB : Below w.heap.size w4 _ := (((((((Below.refl _ _).setCell (p := ⟨g5, 2, none⟩) (Nat.le_of_lt hw5) (I u)).setCell (p := ⟨w.heap.size, 0, none⟩) (Nat.le_refl _) (I 1)).setCell (p := ⟨w.heap.size, 1, none⟩) (Nat.le_refl _) (I x)).setCell (p := ⟨w.heap.size, 2, none⟩) (Nat.le_refl _) (I u)).setCell (p := ⟨w.heap.size, 3, none⟩) (Nat.le_refl _) (I 0)).setCell (p := ⟨w.heap.size, 4, none⟩) (Nat.le_refl _) (I 0))
    refine bodyPost_ret (ret_act1 Tryd.results75 (p := 4) (g := w.heap.size) rfl (Blk.set5 (Hb4.out.far (p := ⟨g5, 2, none⟩) (Nat.ne_of_lt hw5) (I u)) (I 1) (I x) (I u) (I 0) (I 0))) rfl (actRet_mk (k := 1) (by decide) (by decide) hx hql (by decide) (by decide) (cur_low Hc4.out (hB.mono (by omega))) (grown_below HG4.out hB))
  · have p0w3 : w3.cell? ⟨g5, 0, none⟩ = some (I 0) := H5.out.cell 0
    have p1w3 : w3.cell? ⟨g5, 1, none⟩ = some (I x) := H5.out.cell 1
    have p2w3 : w3.cell? ⟨g5, 2, none⟩ = some (I (1 + y)) := H5.out.cell 2
    have p3w3 : w3.cell? ⟨g5, 3, none⟩ = some (I 0) := H5.out.cell 3
    have p4w3 : w3.cell? ⟨g5, 4, none⟩ = some (I 0) := H5.out.cell 4
    have q0w3 : w3.frozen? ⟨g5, 0, none⟩ = false := H5.out.frozen 0
    have q1w3 : w3.frozen? ⟨g5, 1, none⟩ = false := H5.out.frozen 1
    have q2w3 : w3.frozen? ⟨g5, 2, none⟩ = false := H5.out.frozen 2
    have q3w3 : w3.frozen? ⟨g5, 3, none⟩ = false := H5.out.frozen 3
    have q4w3 : w3.frozen? ⟨g5, 4, none⟩ = false := H5.out.frozen 4
    have r0w3 : w3.cell? ⟨w.heap.size, 0, none⟩ = some (I 0) := Hb3.out.cell 0
    have r1w3 : w3.cell? ⟨w.heap.size, 1, none⟩ = some (I 0) := Hb3.out.cell 1
    have r2w3 : w3.cell? ⟨w.heap.size, 2, none⟩ = some (I 0) := Hb3.out.cell 2
    have r3w3 : w3.cell? ⟨w.heap.size, 3, none⟩ = some (I 0) := Hb3.out.cell 3
    have r4w3 : w3.cell? ⟨w.heap.size, 4, none⟩ = some (I 0) := Hb3.out.cell 4
    have s0w3 : w3.frozen? ⟨w.heap.size, 0, none⟩ = false := Hb3.out.frozen 0
    have s1w3 : w3.frozen? ⟨w.heap.size, 1, none⟩ = false := Hb3.out.frozen 1
    have s2w3 : w3.frozen? ⟨w.heap.size, 2, none⟩ = false := Hb3.out.frozen 2
    have s3w3 : w3.frozen? ⟨w.heap.size, 3, none⟩ = false := Hb3.out.frozen 3
    have s4w3 : w3.frozen? ⟨w.heap.size, 4, none⟩ = false := Hb3.out.frozen 4
    go_wp2_with fail
    have hB3 : Below w.heap.size w3 _ := (((Below.refl _ _).setCell (p := ⟨g5, 0, none⟩) (Nat.le_of_lt hw5) (I 1)).alloc (by simp [World.setCell]; omega) (.cells #[I 1, I 1, I 2, I 2, I 3, I 4, I 4, I 5, I 8, I 9, I 20] 3))
    refine (pick_lit [1, 1, 2, 2, 3, 4, 4, 5, 8, 9, 20] 11 w3.heap.size 3 #[I 1, I 1, I 2, I 2, I 3, I 4, I 4, I 5, I 8, I 9, I 20] rfl rfl (by decide) (by decide) g A n c 11 zs _ (cur_low Hc3.out (hB3.mono (by omega))) (Pl.blk_new' (by simp [World.setCell])) (by omega)).mono ?_
    rintro e w4 ⟨q, hq, rfl, hc4, hg4⟩
    have h54 : Blk w4 g5 44 #[I 1, I x, I (1 + y), I 0, I 0] := blk_grown ((H5.out.set_ 0 (I 1)).alloc (.cells #[I 1, I 1, I 2, I 2, I 3, I 4, I 4, I 5, I 8, I 9, I 20] 3)) hg4 (by omega)
    have Hb4 := Lib.hid (blk_grown ((Hb3.out.far (p := ⟨g5, 0, none⟩) (Nat.ne_of_lt hw5) (I 1)).alloc (.cells #[I 1, I 1, I 2, I 2, I 3, I 4, I 4, I 5, I 8, I 9, I 20] 3)) hg4 (by omega))
    have H54 := Lib.hid h54
    have HG4 := Lib.hid (grown_tr (grown_below HG3.out hB3) hg4)
    have Hc4 := Lib.hid hc4
    have hs4 := h54.lt
    have hql := inR_of [1, 1, 2, 2, 3, 4, 4, 5, 8, 9, 20] (by decide) q
    obtain ⟨u, hu⟩ : ∃ u, gI [1, 1, 2, 2, 3, 4, 4, 5, 8, 9, 20] q = u := ⟨_, rfl⟩
    rw [hu] at hql ⊢
    clear hu hq hc4 hg4 h54 hB3 p0w3 p1w3 p2w3 p3w3 p4w3 q0w3 q1w3 q2w3 q3w3 q4w3 r0w3 r1w3 r2w3 r3w3 r4w3 s0w3 s1w3 s2w3 s3w3 s4w3
    have p0w4 : w4.cell? ⟨g5, 0, none⟩ = some (I 1) := H54.out.cell 0
    have p1w4 : w4.cell? ⟨g5, 1, none⟩ = some (I x) := H54.out.cell 1
    have p2w4 : w4.cell? ⟨g5, 2, none⟩ = some (I (1 + y)) := H54.out.cell 2
    have p3w4 : w4.cell? ⟨g5, 3, none⟩ = some (I 0) := H54.out.cell 3
    have p4w4 : w4.cell? ⟨g5, 4, none⟩ = some (I 0) := H54.out.cell 4
    have q0w4 : w4.frozen? ⟨g5, 0, none⟩ = false := H54.out.frozen 0
    have q1w4 : w4.frozen? ⟨g5, 1, none⟩ = false := H54.out.frozen 1
    have q2w4 : w4.frozen? ⟨g5, 2, none⟩ = false := H54.out.frozen 2
    have q3w4 : w4.frozen? ⟨g5, 3, none⟩ = false := H54.out.frozen 3
    have q4w4 : w4.frozen? ⟨g5, 4, none⟩ = false := H54.out.frozen 4
    have r0w4 : w4.cell? ⟨w.heap.size, 0, none⟩ = some (I 0) := Hb4.out.cell 0
    have r1w4 : w4.cell? ⟨w.heap.size, 1, none⟩ = some (I 0) := Hb4.out.cell 1
    have r2w4 : w4.cell? ⟨w.heap.size, 2, none⟩ = some (I 0) := Hb4.out.cell 2
    have r3w4 : w4.cell? ⟨w.heap.size, 3, none⟩ = some (I 0) := Hb4.out.cell 3
    have r4w4 : w4.cell? ⟨w.heap.size, 4, none⟩ = some (I 0) := Hb4.out.cell 4
    have s0w4 : w4.frozen? ⟨w.heap.size, 0, none⟩ = false := Hb4.out.frozen 0
    have s1w4 : w4.frozen? ⟨w.heap.size, 1, none⟩ = false := Hb4.out.frozen 1
    have s2w4 : w4.frozen? ⟨w.heap.size, 2, none⟩ = false := Hb4.out.frozen 2
    have s3w4 : w4.frozen? ⟨w.heap.size, 3, none⟩ = false := Hb4.out.frozen 3
    have s4w4 : w4.frozen? ⟨w.heap.size, 4, none⟩ = false := Hb4.out.frozen 4
    go_wp2
    have hB : Below w.heap.size w4 _ := (((((((Below.refl _ _).setCell (p := ⟨g5, 2, none⟩) (Nat.le_of_lt hw5) (I u)).setCell (p := ⟨w.heap.size, 0, none⟩) (Nat.le_refl _) (I 1)).setCell (p := ⟨w.heap.size, 1, none⟩) (Nat.le_refl _) (I x)).setCell (p := ⟨w.heap.size, 2, none⟩) (Nat.le_refl _) (I u)).setCell (p := ⟨w.heap.size, 3, none⟩) (Nat.le_refl _) (I 0)).setCell (p := ⟨w.heap.size, 4, none⟩) (Nat.le_refl _) (I 0))
    refine bodyPost_ret (ret_act1 Tryd.results75 (p := 4) (g := w.heap.size) rfl (Blk.set5 (Hb4.out.far (p := ⟨g5, 2, none⟩) (Nat.ne_of_lt hw5) (I u)) (I 1) (I x) (I u) (I 0) (I 0))) rfl (actRet_mk (k := 1) (by decide) (by decide) hx hql (by decide) (by decide) (cur_low Hc4.out (hB.mono (by omega))) (grown_below HG4.out hB))
  · have p0w3 : w3.cell? ⟨g5, 0, none⟩ = some (I 0) := H5.out.cell 0
    have p1w3 : w3.cell? ⟨g5, 1, none⟩ = some (I x) := H5.out.cell 1
    have p2w3 : w3.cell? ⟨g5, 2, none⟩ = some (I (1 + y)) := H5.out.cell 2
    have p3w3 : w3.cell? ⟨g5, 3, none⟩ = some (I 0) := H5.out.cell 3
    have p4w3 : w3.cell? ⟨g5, 4, none⟩ = some (I 0) := H5.out.cell 4
    have q0w3 : w3.frozen? ⟨g5, 0, none⟩ = false := H5.out.frozen 0
    have q1w3 : w3.frozen? ⟨g5, 1, none⟩ = false := H5.out.frozen 1
    have q2w3 : w3.frozen? ⟨g5, 2, none⟩ = false := H5.out.frozen 2
    have q3w3 : w3.frozen? ⟨g5, 3, none⟩ = false := H5.out.frozen 3
    have q4w3 : w3.frozen? ⟨g5, 4, none⟩ = false := H5.out.frozen 4
    have r0w3 : w3.cell? ⟨w.heap.size, 0, none⟩ = some (I 0) := Hb3.out.cell 0
    have r1w3 : w3.cell? ⟨w.heap.size, 1, none⟩ = some (I 0) := Hb3.out.cell 1
    have r2w3 : w3.cell? ⟨w.heap.size, 2, none⟩ = some (I 0) := Hb3.out.cell 2
    have r3w3 : w3.cell? ⟨w.heap.size, 3, none⟩ = some (I 0) := Hb3.out.cell 3
    have r4w3 : w3.cell? ⟨w.heap.size, 4, none⟩ = some (I 0) := Hb3.out.cell 4
    have s0w3 : w3.frozen? ⟨w.heap.size, 0, none⟩ = false := Hb3.out.frozen 0
    have s1w3 : w3.frozen? ⟨w.heap.size, 1, none⟩ = false := Hb3.out.frozen 1
    have s2w3 : w3.frozen? ⟨w.heap.size, 2, none⟩ = false := Hb3.out.frozen 2
    have s3w3 : w3.frozen? ⟨w.heap.size, 3, none⟩ = false := Hb3.out.frozen 3
    have s4w3 : w3.frozen? ⟨w.heap.size, 4, none⟩ = false := Hb3.out.frozen 4
    go_wp2_with fail
    have hB3 : Below w.heap.size w3 _ := (((Below.refl _ _).setCell (p := ⟨g5, 0, none⟩) (Nat.le_of_lt hw5) (I 1)).alloc (by simp [World.setCell]; omega) (.cells #[I 1, I 1, I 2, I 2, I 3, I 4, I 4, I 5, I 8, I 9, I 20] 3))
    refine (pick_lit [1, 1, 2, 2, 3, 4, 4, 5, 8, 9, 20] 11 w3.heap.size 3 #[I 1, I 1, I 2, I 2, I 3, I 4, I 4, I 5, I 8, I 9, I 20] rfl rfl (by decide) (by decide) g A n c 11 zs _ (cur_low Hc3.out (hB3.mono (by omega))) (Pl.blk_new' (by simp [World.setCell])) (by omega)).mono ?_
    rintro e w4 ⟨q, hq, rfl, hc4, hg4⟩
    have h54 : Blk w4 g5 44 #[I 1, I x, I (1 + y), I 0, I 0] := blk_grown ((H5.out.set_ 0 (I 1)).alloc (.cells #[I 1, I 1, I 2, I 2, I 3, I 4, I 4, I 5, I 8, I 9, I 20] 3)) hg4 (by omega)
    have Hb4 := Lib.hid (blk_grown ((Hb3.out.far (p := ⟨g5, 0, none⟩) (Nat.ne_of_lt hw5) (I 1)).alloc (.cells #[I 1, I 1, I 2, I 2, I 3, I 4, I 4, I 5, I 8, I 9, I 20] 3)) hg4 (by omega))
    have H54 := Lib.hid h54
    have HG4 := Lib.hid (grown_tr (grown_below HG3.out hB3) hg4)
    have Hc4 := Lib.hid hc4
    have hs4 := h54.lt
    have hql := inR_of [1, 1, 2, 2, 3, 4, 4, 5, 8, 9, 20] (by decide) q
    obtain ⟨u, hu⟩ : ∃ u, gI [1, 1, 2, 2, 3, 4, 4, 5, 8, 9, 20] q = u := ⟨_, rfl⟩
    rw [hu] at hql ⊢
    clear hu hq hc4 hg4 h54 hB3 p0w3 p1w3 p2w3 p3w3 p4w3 q0w3 q1w3 q2w3 q3w3 q4w3 r0w3 r1w3 r2w3 r3w3 r4w3 s0w3 s1w3 s2w3 s3w3 s4w3
    have p0w4 : w4.cell? ⟨g5, 0, none⟩ = some (I 1) := H54.out.cell 0
    have p1w4 : w4.cell? ⟨g5, 1, none⟩ = some (I x) := H54.out.cell 1
    have p2w4 : w4.cell? ⟨g5, 2, none⟩ = some (I (1 + y)) := H54.out.cell 2
    have p3w4 : w4.cell? ⟨g5, 3, none⟩ = some (I 0) := H54.out.cell 3
    have p4w4 : w4.cell? ⟨g5, 4, none⟩ = some (I 0) := H54.out.cell 4
    have q0w4 : w4.frozen? ⟨g5, 0, none⟩ = false := H54.out.frozen 0
    have q1w4 : w4.frozen? ⟨g5, 1, none⟩ = false := H54.out.frozen 1
    have q2w4 : w4.frozen? ⟨g5, 2, none⟩ = false := H54.out.frozen 2
    have q3w4 : w4.frozen? ⟨g5, 3, none⟩ = false := H54.out.frozen 3
    have q4w4 : w4.frozen? ⟨g5, 4, none⟩ = false := H54.out.frozen 4
    have r0w4 : w4.cell? ⟨w.heap.size, 0, none⟩ = some (I 0) := Hb4.out.cell 0
    have r1w4 : w4.cell? ⟨w.heap.size, 1, none⟩ = some (I 0) := Hb4.out.cell 1
    have r2w4 : w4.cell? ⟨w.heap.size, 2, none⟩ = some (I 0) := Hb4.out.cell 2
    have r3w4 : w4.cell? ⟨w.heap.size, 3, none⟩ = some (I 0) := Hb4.out.cell 3
    have r4w4 : w4.cell? ⟨w.heap.size, 4, none⟩ = some (I 0) := Hb4.out.cell 4
    have s0w4 : w4.frozen? ⟨w.heap.size, 0, none⟩ = false := Hb4.out.frozen 0
    have s1w4 : w4.frozen? ⟨w.heap.size, 1, none⟩ = false := Hb4.out.frozen 1
    have s2w4 : w4.frozen? ⟨w.heap.size, 2, none⟩ = false := Hb4.out.frozen 2
    have s3w4 : w4.frozen? ⟨w.heap.size, 3, none⟩ = false := Hb4.out.frozen 3
    have s4w4 : w4.frozen? ⟨w.heap.size, 4, none⟩ = false := Hb4.out.frozen 4
    go_wp2
    have hB : Below w.heap.size w4 _ := (((((((Below.refl _ _).setCell (p := ⟨g5, 2, none⟩) (Nat.le_of_lt hw5) (I u)).setCell (p := ⟨w.heap.size, 0, none⟩) (Nat.le_refl _) (I 1)).setCell (p := ⟨w.heap.size, 1, none⟩) (Nat.le_refl _) (I x)).setCell (p := ⟨w.heap.size, 2, none⟩) (Nat.le_refl _) (I u)).setCell (p := ⟨w.heap.size, 3, none⟩) (Nat.le_refl _) (I 0)).setCell (p := ⟨w.heap.size, 4, none⟩) (Nat.le_refl _) (I 0))
    refine bodyPost_ret (ret_act1 Tryd.results75 (p := 4) (g := w.heap.size) rfl (Blk.set5 (Hb4.out.far (p := ⟨g5, 2, none⟩) (Nat.ne_of_lt hw5) (I u)) (I 1) (I x) (I u) (I 0) (I 0))) rfl (actRet_mk (k := 1) (by decide) (by decide) hx hql (by decide) (by decide) (cur_low Hc4.out (hB.mono (by omega))) (grown_below HG4.out hB))
  · have p0w3 : w3.cell? ⟨g5, 0, none⟩ = some (I 0) := H5.out.cell 0
    have p1w3 : w3.cell? ⟨g5, 1, none⟩ = some (I x) := H5.out.cell 1
    have p2w3 : w3.cell? ⟨g5, 2, none⟩ = some (I (1 + y)) := H5.out.cell 2
    have p3w3 : w3.cell? ⟨g5, 3, none⟩ = some (I 0) := H5.out.cell 3
    have p4w3 : w3.cell? ⟨g5, 4, none⟩ = some (I 0) := H5.out.cell 4
    have q0w3 : w3.frozen? ⟨g5, 0, none⟩ = false := H5.out.frozen 0
    have q1w3 : w3.frozen? ⟨g5, 1, none⟩ = false := H5.out.frozen 1
    have q2w3 : w3.frozen? ⟨g5, 2, none⟩ = false := H5.out.frozen 2
    have q3w3 : w3.frozen? ⟨g5, 3, none⟩ = false := H5.out.frozen 3
    have q4w3 : w3.frozen? ⟨g5, 4, none⟩ = false := H5.out.frozen 4
    have r0w3 : w3.cell? ⟨w.heap.size, 0, none⟩ = some (I 0) := Hb3.out.cell 0
    have r1w3 : w3.cell? ⟨w.heap.size, 1, none⟩ = some (I 0) := Hb3.out.cell 1
    have r2w3 : w3.cell? ⟨w.heap.size, 2, none⟩ = some (I 0) := Hb3.out.cell 2
    have r3w3 : w3.cell? ⟨w.heap.size, 3, none⟩ = some (I 0) := Hb3.out.cell 3
    have r4w3 : w3.cell? ⟨w.heap.size, 4, none⟩ = some (I 0) := Hb3.out.cell 4
    have s0w3 : w3.frozen? ⟨w.heap.size, 0, none⟩ = false := Hb3.out.frozen 0
    have s1w3 : w3.frozen? ⟨w.heap.size, 1, none⟩ = false := Hb3.out.frozen 1
    have s2w3 : w3.frozen? ⟨w.heap.size, 2, none⟩ = false := Hb3.out.frozen 2
    have s3w3 : w3.frozen? ⟨w.heap.size, 3, none⟩ = false := Hb3.out.frozen 3
    have s4w3 : w3.frozen? ⟨w.heap.size, 4, none⟩ = false := Hb3.out.frozen 4
    go_wp2_with fail
    have hB3 : Below w.heap.size w3 _ := (((Below.refl _ _).setCell (p := ⟨g5, 0, none⟩) (Nat.le_of_lt hw5) (I 1)).alloc (by simp [World.setCell]; omega) (.cells #[I 1, I 1, I 2, I 2, I 3, I 4, I 4, I 5, I 8, I 9, I 20] 3))
    refine (pick_lit [1, 1, 2, 2, 3, 4, 4, 5, 8, 9, 20] 11 w3.heap.size 3 #[I 1, I 1, I 2, I 2, I 3, I 4, I 4, I 5, I 8, I 9, I 20] rfl rfl (by decide) (by decide) g A n c 11 zs _ (cur_low Hc3.out (hB3.mono (by omega))) (Pl.blk_new' (by simp [World.setCell])) (by omega)).mono ?_
    rintro e w4 ⟨q, hq, rfl, hc4, hg4⟩
    have h54 : Blk w4 g5 44 #[I 1, I x, I (1 + y), I 0, I 0] := blk_grown ((H5.out.set_ 0 (I 1)).alloc (.cells #[I 1, I 1, I 2, I 2, I 3, I 4, I 4, I 5, I 8, I 9, I 20] 3)) hg4 (by omega)
    have Hb4 := Lib.hid (blk_grown ((Hb3.out.far (p := ⟨g5, 0, none⟩) (Nat.ne_of_lt hw5) (I 1)).alloc (.cells #[I 1, I 1, I 2, I 2, I 3, I 4, I 4, I 5, I 8, I 9, I 20] 3)) hg4 (by omega))
    have H54 := Lib.hid h54
    have HG4 := Lib.hid (grown_tr (grown_below HG3.out hB3) hg4)
    have Hc4 := Lib.hid hc4
    have hs4 := h54.lt
    have hql := inR_of [1, 1, 2, 2, 3, 4, 4, 5, 8, 9, 20] (by decide) q
    obtain ⟨u, hu⟩ : ∃ u, gI [1, 1, 2, 2, 3, 4, 4, 5, 8, 9, 20] q = u := ⟨_, rfl⟩
    rw [hu] at hql ⊢
    clear hu hq hc4 hg4 h54 hB3 p0w3 p1w3 p2w3 p3w3 p4w3 q0w3 q1w3 q2w3 q3w3 q4w3 r0w3 r1w3 r2w3 r3w3 r4w3 s0w3 s1w3 s2w3 s3w3 s4w3
    have p0w4 : w4.cell? ⟨g5, 0, none⟩ = some (I 1) := H54.out.cell 0
    have p1w4 : w4.cell? ⟨g5, 1, none⟩ = some (I x) := H54.out.cell 1
    have p2w4 : w4.cell? ⟨g5, 2, none⟩ = some (I (1 + y)) := H54.out.cell 2
    have p3w4 : w4.cell? ⟨g5, 3, none⟩ = some (I 0) := H54.out.cell 3
    have p4w4 : w4.cell? ⟨g5, 4, none⟩ = some (I 0) := H54.out.cell 4
    have q0w4 : w4.frozen? ⟨g5, 0, none⟩ = false := H54.out.frozen 0
    have q1w4 : w4.frozen? ⟨g5, 1, none⟩ = false := H54.out.frozen 1
    have q2w4 : w4.frozen? ⟨g5, 2, none⟩ = false := H54.out.frozen 2
    have q3w4 : w4.frozen? ⟨g5, 3, none⟩ = false := H54.out.frozen 3
    have q4w4 : w4.frozen? ⟨g5, 4, none⟩ = false := H54.out.frozen 4
    have r0w4 : w4.cell? ⟨w.heap.size, 0, none⟩ = some (I 0) := Hb4.out.cell 0
    have r1w4 : w4.cell? ⟨w.heap.size, 1, none⟩ = some (I 0) := Hb4.out.cell 1
    have r2w4 : w4.cell? ⟨w.heap.size, 2, none⟩ = some (I 0) := Hb4.out.cell 2
    have r3w4 : w4.cell? ⟨w.heap.size, 3, none⟩ = some (I 0) := Hb4.out.cell 3
    have r4w4 : w4.cell? ⟨w.heap.size, 4, none⟩ = some (I 0) := Hb4.out.cell 4
    have s0w4 : w4.frozen? ⟨w.heap.size, 0, none⟩ = false := Hb4.out.frozen 0
    have s1w4 : w4.frozen? ⟨w.heap.size, 1, none⟩ = false := Hb4.out.frozen 1
    have s2w4 : w4.frozen? ⟨w.heap.size, 2, none⟩ = false := Hb4.out.frozen 2
    have s3w4 : w4.frozen? ⟨w.heap.size, 3, none⟩ = false := Hb4.out.frozen 3
    have s4w4 : w4.frozen? ⟨w.heap.size, 4, none⟩ = false := Hb4.out.frozen 4
    go_wp2
    have hB : Below w.heap.size w4 _ := (((((((Below.refl _ _).setCell (p := ⟨g5, 2, none⟩) (Nat.le_of_lt hw5) (I u)).setCell (p := ⟨w.heap.size, 0, none⟩) (Nat.le_refl _) (I 1)).setCell (p := ⟨w.heap.size, 1, none⟩) (Nat.le_refl _) (I x)).setCell (p := ⟨w.heap.size, 2, none⟩) (Nat.le_refl _) (I u)).setCell (p := ⟨w.heap.size, 3, none⟩) (Nat.le_refl _) (I 0)).setCell (p := ⟨w.heap.size, 4, none⟩) (Nat.le_refl _) (I 0))
    refine bodyPost_ret (ret_act1 Tryd.results75 (p := 4) (g := w.heap.size) rfl (Blk.set5 (Hb4.out.far (p := ⟨g5, 2, none⟩) (Nat.ne_of_lt hw5) (I u)) (I 1) (I x) (I u) (I 0) (I 0))) rfl (actRet_mk (k := 1) (by decide) (by decide) hx hql (by decide) (by decide) (cur_low Hc4.out (hB.mono (by omega))) (grown_below HG4.out hB))
  · have p0w3 : w3.cell? ⟨g5, 0, none⟩ = some (I 0) := H5.out.cell 0
    have p1w3 : w3.cell? ⟨g5, 1, none⟩ = some (I x) := H5.out.cell 1
    have p2w3 : w3.cell? ⟨g5, 2, none⟩ = some (I (1 + y)) := H5.out.cell 2
    have p3w3 : w3.cell? ⟨g5, 3, none⟩ = some (I 0) := H5.out.cell 3
    have p4w3 : w3.cell? ⟨g5, 4, none⟩ = some (I 0) := H5.out.cell 4
    have q0w3 : w3.frozen? ⟨g5, 0, none⟩ = false := H5.out.frozen 0
    have q1w3 : w3.frozen? ⟨g5, 1, none⟩ = false := H5.out.frozen 1
    have q2w3 : w3.frozen? ⟨g5, 2, none⟩ = false := H5.out.frozen 2
    have q3w3 : w3.frozen? ⟨g5, 3, none⟩ = false := H5.out.frozen 3
    have q4w3 : w3.frozen? ⟨g5, 4, none⟩ = false := H5.out.frozen 4
    have r0w3 : w3.cell? ⟨w.heap.size, 0, none⟩ = some (I 0) := Hb3.out.cell 0
    have r1w3 : w3.cell? ⟨w.heap.size, 1, none⟩ = some (I 0) := Hb3.out.cell 1
    have r2w3 : w3.cell? ⟨w.heap.size, 2, none⟩ = some (I 0) := Hb3.out.cell 2
    have r3w3 : w3.cell? ⟨w.heap.size, 3, none⟩ = some (I 0) := Hb3.out.cell 3
    have r4w3 : w3.cell? ⟨w.heap.size, 4, none⟩ = some (I 0) := Hb3.out.cell 4
    have s0w3 : w3.frozen? ⟨w.heap.size, 0, none⟩ = false := Hb3.out.frozen 0
    have s1w3 : w3.frozen? ⟨w.heap.size, 1, none⟩ = false := Hb3.out.frozen 1
    have s2w3 : w3.frozen? ⟨w.heap.size, 2, none⟩ = false := Hb3.out.frozen 2
    have s3w3 : w3.frozen? ⟨w.heap.size, 3, none⟩ = false := Hb3.out.frozen 3
    have s4w3 : w3.frozen? ⟨w.heap.size, 4, none⟩ = false := Hb3.out.frozen 4
    go_wp2_with fail
    have hB3 : Below w.heap.size w3 _ := (((Below.refl _ _).setCell (p := ⟨g5, 0, none⟩) (Nat.le_of_lt hw5) (I 1)).alloc (by simp [World.setCell]; omega) (.cells #[I 1, I 1, I 2, I 2, I 3, I 4, I 4, I 5, I 8, I 9, I 20] 3))
    refine (pick_lit [1, 1, 2, 2, 3, 4, 4, 5, 8, 9, 20] 11 w3.heap.size 3 #[I 1, I 1, I 2, I 2, I 3, I 4, I 4, I 5, I 8, I 9, I 20] rfl rfl (by decide) (by decide) g A n c 11 zs _ (cur_low Hc3.out (hB3.mono (by omega))) (Pl.blk_new' (by simp [World.setCell])) (by omega)).mono ?_
    rintro e w4 ⟨q, hq, rfl, hc4, hg4⟩
    have h54 : Blk w4 g5 44 #[I 1, I x, I (1 + y), I 0, I 0] := blk_grown ((H5.out.set_ 0 (I 1)).alloc (.cells #[I 1, I 1, I 2, I 2, I 3, I 4, I 4, I 5, I 8, I 9, I 20] 3)) hg4 (by omega)
    have Hb4 := Lib.hid (blk_grown ((Hb3.out.far (p := ⟨g5, 0, none⟩) (Nat.ne_of_lt hw5) (I 1)).alloc (.cells #[I 1, I 1, I 2, I 2, I 3, I 4, I 4, I 5, I 8, I 9, I 20] 3)) hg4 (by omega))
    have H54 := Lib.hid h54
    have HG4 := Lib.hid (grown_tr (grown_below HG3.out hB3) hg4)
    have Hc4 := Lib.hid hc4
    have hs4 := h54.lt
    have hql := inR_of [1, 1, 2, 2, 3, 4, 4, 5, 8, 9, 20] (by decide) q
    obtain ⟨u, hu⟩ : ∃ u, gI [1, 1, 2, 2, 3, 4, 4, 5, 8, 9, 20] q = u := ⟨_, rfl⟩
    rw [hu] at hql ⊢
    clear hu hq hc4 hg4 h54 hB3 p0w3 p1w3 p2w3 p3w3 p4w3 q0w3 q1w3 q2w3 q3w3 q4w3 r0w3 r1w3 r2w3 r3w3 r4w3 s0w3 s1w3 s2w3 s3w3 s4w3
    have p0w4 : w4.cell? ⟨g5, 0, none⟩ = some (I 1) := H54.out.cell 0
    have p1w4 : w4.cell? ⟨g5, 1, none⟩ = some (I x) := H54.out.cell 1
    have p2w4 : w4.cell? ⟨g5, 2, none⟩ = some (I (1 + y)) := H54.out.cell 2
    have p3w4 : w4.cell? ⟨g5, 3, none⟩ = some (I 0) := H54.out.cell 3
    have p4w4 : w4.cell? ⟨g5, 4, none⟩ = some (I 0) := H54.out.cell 4
    have q0w4 : w4.frozen? ⟨g5, 0, none⟩ = false := H54.out.frozen 0
    have q1w4 : w4.frozen? ⟨g5, 1, none⟩ = false := H54.out.frozen 1
    have q2w4 : w4.frozen? ⟨g5, 2, none⟩ = false := H54.out.frozen 2
    have q3w4 : w4.frozen? ⟨g5, 3, none⟩ = false := H54.out.frozen 3
    have q4w4 : w4.frozen? ⟨g5, 4, none⟩ = false := H54.out.frozen 4
    have r0w4 : w4.cell? ⟨w.heap.size, 0, none⟩ = some (I 0) := Hb4.out.cell 0
    have r1w4 : w4.cell? ⟨w.heap.size, 1, none⟩ = some (I 0) := Hb4.out.cell 1
    have r2w4 : w4.cell? ⟨w.heap.size, 2, none⟩ = some (I 0) := Hb4.out.cell 2
    have r3w4 : w4.cell? ⟨w.heap.size, 3, none⟩ = some (I 0) := Hb4.out.cell 3
    have r4w4 : w4.cell? ⟨w.heap.size, 4, none⟩ = some (I 0) := Hb4.out.cell 4
    have s0w4 : w4.frozen? ⟨w.heap.size, 0, none⟩ = false := Hb4.out.frozen 0
    have s1w4 : w4.frozen? ⟨w.heap.size, 1, none⟩ = false := Hb4.out.frozen 1
    have s2w4 : w4.frozen? ⟨w.heap.size, 2, none⟩ = false := Hb4.out.frozen 2
    have s3w4 : w4.frozen? ⟨w.heap.size, 3, none⟩ = false := Hb4.out.frozen 3
    have s4w4 : w4.frozen? ⟨w.heap.size, 4, none⟩ = false := Hb4.out.frozen 4
    go_wp2
    have hB : Below w.heap.size w4 _ := (((((((Below.refl _ _).setCell (p := ⟨g5, 2, none⟩) (Nat.le_of_lt hw5) (I u)).setCell (p := ⟨w.heap.size, 0, none⟩) (Nat.le_refl _) (I 1)).setCell (p := ⟨w.heap.size, 1, none⟩) (Nat.le_refl _) (I x)).setCell (p := ⟨w.heap.size, 2, none⟩) (Nat.le_refl _) (I u)).setCell (p := ⟨w.heap.size, 3, none⟩) (Nat.le_refl _) (I 0)).setCell (p := ⟨w.heap.size, 4, none⟩) (Nat.le_refl _) (I 0))
    refine bodyPost_ret (ret_act1 Tryd.results75 (p := 4) (g := w.heap.size) rfl (Blk.set5 (Hb4.out.far (p := ⟨g5, 2, none⟩) (Nat.ne_of_lt hw5) (I u)) (I 1) (I x) (I u) (I 0) (I 0))) rfl (actRet_mk (k := 1) (by decide) (by decide) hx hql (by decide) (by decide) (cur_low Hc4.out (hB.mono (by omega))) (grown_below HG4.out hB))
  · have p0w3 : w3.cell? ⟨g5, 0, none⟩ = some (I 0) := H5.out.cell 0
    have p1w3 : w3.cell? ⟨g5, 1, none⟩ = some (I x) := H5.out.cell 1
    have p2w3 : w3.cell? ⟨g5, 2, none⟩ = some (I (1 + y)) := H5.out.cell 2
    have p3w3 : w3.cell? ⟨g5, 3, none⟩ = some (I 0) := H5.out.cell 3
    have p4w3 : w3.cell? ⟨g5, 4, none⟩ = some (I 0) := H5.out.cell 4
    have q0w3 : w3.frozen? ⟨g5, 0, none⟩ = false := H5.out.frozen 0
    have q1w3 : w3.frozen? ⟨g5, 1, none⟩ = false := H5.out.frozen 1
    have q2w3 : w3.frozen? ⟨g5, 2, none⟩ = false := H5.out.frozen 2
    have q3w3 : w3.frozen? ⟨g5, 3, none⟩ = false := H5.out.frozen 3
    have q4w3 : w3.frozen? ⟨g5, 4, none⟩ = false := H5.out.frozen 4
    have r0w3 : w3.cell? ⟨w.heap.size, 0, none⟩ = some (I 0) := Hb3.out.cell 0
    have r1w3 : w3.cell? ⟨w.heap.size, 1, none⟩ = some (I 0) := Hb3.out.cell 1
    have r2w3 : w3.cell? ⟨w.heap.size, 2, none⟩ = some (I 0) := Hb3.out.cell 2
    have r3w3 : w3.cell? ⟨w.heap.size, 3, none⟩ = some (I 0) := Hb3.out.cell 3
    have r4w3 : w3.cell? ⟨w.heap.size, 4, none⟩ = some (I 0) := Hb3.out.cell 4
    have s0w3 : w3.frozen? ⟨w.heap.size, 0, none⟩ = false := Hb3.out.frozen 0
    have s1w3 : w3.frozen? ⟨w.heap.size, 1, none⟩ = false := Hb3.out.frozen 1
    have s2w3 : w3.frozen? ⟨w.heap.size, 2, none⟩ = false := Hb3.out.frozen 2
    have s3w3 : w3.frozen? ⟨w.heap.size, 3, none⟩ = false := Hb3.out.frozen 3
    have s4w3 : w3.frozen? ⟨w.heap.size, 4, none⟩ = false := Hb3.out.frozen 4
    go_wp2
    have hB : Below w.heap.size w3 _ := (((((((Below.refl _ _).setCell (p := ⟨g5, 0, none⟩) (Nat.le_of_lt hw5) (I 2)).setCell (p := ⟨w.heap.size, 0, none⟩) (Nat.le_refl _) (I 2)).setCell (p := ⟨w.heap.size, 1, none⟩) (Nat.le_refl _) (I x)).setCell (p := ⟨w.heap.size, 2, none⟩) (Nat.le_refl _) (I (1 + y))).setCell (p := ⟨w.heap.size, 3, none⟩) (Nat.le_refl _) (I 0)).setCell (p := ⟨w.heap.size, 4, none⟩) (Nat.le_refl _) (I 0))
    refine bodyPost_ret (ret_act1 Tryd.results75 (p := 4) (g := w.heap.size) rfl (Blk.set5 (Hb3.out.far (p := ⟨g5, 0, none⟩) (Nat.ne_of_lt hw5) (I 2)) (I 2) (I x) (I (1 + y)) (I 0) (I 0))) rfl (actRet_mk (k := 2) (by decide) (by decide) hx hy (by decide) (by decide) (cur_low Hc3.out (hB.mono (by omega))) (grown_below HG3.out hB))
  · have p0w3 : w3.cell? ⟨g5, 0, none⟩ = some (I 0) := H5.out.cell 0
    have p1w3 : w3.cell? ⟨g5, 1, none⟩ = some (I x) := H5.out.cell 1
    have p2w3 : w3.cell? ⟨g5, 2, none⟩ = some (I (1 + y)) := H5.out.cell 2
    have p3w3 : w3.cell? ⟨g5, 3, none⟩ = some (I 0) := H5.out.cell 3
    have p4w3 : w3.cell? ⟨g5, 4, none⟩ = some (I 0) := H5.out.cell 4
    have q0w3 : w3.frozen? ⟨g5, 0, none⟩ = false := H5.out.frozen 0
    have q1w3 : w3.frozen? ⟨g5, 1, none⟩ = false := H5.out.frozen 1
    have q2w3 : w3.frozen? ⟨g5, 2, none⟩ = false := H5.out.frozen 2
    have q3w3 : w3.frozen? ⟨g5, 3, none⟩ = false := H5.out.frozen 3
    have q4w3 : w3.frozen? ⟨g5, 4, none⟩ = false := H5.out.frozen 4
    have r0w3 : w3.cell? ⟨w.heap.size, 0, none⟩ = some (I 0) := Hb3.out.cell 0
    have r1w3 : w3.cell? ⟨w.heap.size, 1, none⟩ = some (I 0) := Hb3.out.cell 1
    have r2w3 : w3.cell? ⟨w.heap.size, 2, none⟩ = some (I 0) := Hb3.out.cell 2
    have r3w3 : w3.cell? ⟨w.heap.size, 3, none⟩ = some (I 0) := Hb3.out.cell 3
    have r4w3 : w3.cell? ⟨w.heap.size, 4, none⟩ = some (I 0) := Hb3.out.cell 4
    have s0w3 : w3.frozen? ⟨w.heap.size, 0, none⟩ = false := Hb3.out.frozen 0
    have s1w3 : w3.frozen? ⟨w.heap.size, 1, none⟩ = false := Hb3.out.frozen 1
    have s2w3 : w3.frozen? ⟨w.heap.size, 2, none⟩ = false := Hb3.out.frozen 2
    have s3w3 : w3.frozen? ⟨w.heap.size, 3, none⟩ = false := Hb3.out.frozen 3
    have s4w3 : w3.frozen? ⟨w.heap.size, 4, none⟩ = false := Hb3.out.frozen 4
    go_wp2
    have hB : Below w.heap.size w3 _ := (((((((Below.refl _ _).setCell (p := ⟨g5, 0, none⟩) (Nat.le_of_lt hw5) (I 2)).setCell (p := ⟨w.heap.size, 0, none⟩) (Nat.le_refl _) (I 2)).setCell (p := ⟨w.heap.size, 1, none⟩) (Nat.le_refl _) (I x)).setCell (p := ⟨w.heap.size, 2, none⟩) (Nat.le_refl _) (I (1 + y))).setCell (p := ⟨w.heap.size, 3, none⟩) (Nat.le_refl _) (I 0)).setCell (p := ⟨w.heap.size, 4, none⟩) (Nat.le_refl _) (I 0))
    refine bodyPost_ret (ret_act1 Tryd.results75 (p := 4) (g := w.heap.size) rfl (Blk.set5 (Hb3.out.far (p := ⟨g5, 0, none⟩) (Nat.ne_of_lt hw5) (I 2)) (I 2) (I x) (I (1 + y)) (I 0) (I 0))) rfl (actRet_mk (k := 2) (by decide) (by decide) hx hy (by decide) (by decide) (cur_low Hc3.out (hB.mono (by omega))) (grown_below HG3.out hB))
  · have p0w3 : w3.cell? ⟨g5, 0, none⟩ = some (I 0) := H5.out.cell 0
    have p1w3 : w3.cell? ⟨g5, 1, none⟩ = some (I x) := H5.out.cell 1
    have p2w3 : w3.cell? ⟨g5, 2, none⟩ = some (I (1 + y)) := H5.out.cell 2
    have p3w3 : w3.cell? ⟨g5, 3, none⟩ = some (I 0) := H5.out.cell 3
    have p4w3 : w3.cell? ⟨g5, 4, none⟩ = some (I 0) := H5.out.cell 4
    have q0w3 : w3.frozen? ⟨g5, 0, none⟩ = false := H5.out.frozen 0
    have q1w3 : w3.frozen? ⟨g5, 1, none⟩ = false := H5.out.frozen 1
    have q2w3 : w3.frozen? ⟨g5, 2, none⟩ = false := H5.out.frozen 2
    have q3w3 : w3.frozen? ⟨g5, 3, none⟩ = false := H5.out.frozen 3
    have q4w3 : w3.frozen? ⟨g5, 4, none⟩ = false := H5.out.frozen 4
    have r0w3 : w3.cell? ⟨w.heap.size, 0, none⟩ = some (I 0) := Hb3.out.cell 0
    have r1w3 : w3.cell? ⟨w.heap.size, 1, none⟩ = some (I 0) := Hb3.out.cell 1
    have r2w3 : w3.cell? ⟨w.heap.size, 2, none⟩ = some (I 0) := Hb3.out.cell 2
    have r3w3 : w3.cell? ⟨w.heap.size, 3, none⟩ = some (I 0) := Hb3.out.cell 3
    have r4w3 : w3.cell? ⟨w.heap.size, 4, none⟩ = some (I 0) := Hb3.out.cell 4
    have s0w3 : w3.frozen? ⟨w.heap.size, 0, none⟩ = false := Hb3.out.frozen 0
    have s1w3 : w3.frozen? ⟨w.heap.size, 1, none⟩ = false := Hb3.out.frozen 1
    have s2w3 : w3.frozen? ⟨w.heap.size, 2, none⟩ = false := Hb3.out.frozen 2
    have s3w3 : w3.frozen? ⟨w.heap.size, 3, none⟩ = false := Hb3.out.frozen 3
    have s4w3 : w3.frozen? ⟨w.heap.size, 4, none⟩ = false := Hb3.out.frozen 4
    go_wp2
    have hB : Below w.heap.size w3 _ := (((((((Below.refl _ _).setCell (p := ⟨g5, 0, none⟩) (Nat.le_of_lt hw5) (I 2)).setCell (p := ⟨w.heap.size, 0, none⟩) (Nat.le_refl _) (I 2)).setCell (p := ⟨w.heap.size, 1, none⟩) (Nat.le_refl _) (I x)).setCell (p := ⟨w.heap.size, 2, none⟩) (Nat.le_refl _) (I (1 + y))).setCell (p := ⟨w.heap.size, 3, none⟩) (Nat.le_refl _) (I 0)).setCell (p := ⟨w.heap.size, 4, none⟩) (Nat.le_refl _) (I 0))
    refine bodyPost_ret (ret_act1 Tryd.results75 (p := 4) (g := w.heap.size) rfl (Blk.set5 (Hb3.out.far (p := ⟨g5, 0, none⟩) (Nat.ne_of_lt hw5) (I 2)) (I 2) (I x) (I (1 + y)) (I 0) (I 0))) rfl (actRet_mk (k := 2) (by decide) (by decide) hx hy (by decide) (by decide) (cur_low Hc3.out (hB.mono (by omega))) (grown_below HG3.out hB))
  · have p0w3 : w3.cell? ⟨g5, 0, none⟩ = some (I 0) := H5.out.cell 0
    have p1w3 : w3.cell? ⟨g5, 1, none⟩ = some (I x) := H5.out.cell 1
    have p2w3 : w3.cell? ⟨g5, 2, none⟩ = some (I (1 + y)) := H5.out.cell 2
    have p3w3 : w3.cell? ⟨g5, 3, none⟩ = some (I 0) := H5.out.cell 3
    have p4w3 : w3.cell? ⟨g5, 4, none⟩ = some (I 0) := H5.out.cell 4
    have q0w3 : w3.frozen? ⟨g5, 0, none⟩ = false := H5.out.frozen 0
    have q1w3 : w3.frozen? ⟨g5, 1, none⟩ = false := H5.out.frozen 1
    have q2w3 : w3.frozen? ⟨g5, 2, none⟩ = false := H5.out.frozen 2
    have q3w3 : w3.frozen? ⟨g5, 3, none⟩ = false := H5.out.frozen 3
    have q4w3 : w3.frozen? ⟨g5, 4, none⟩ = false := H5.out.frozen 4
    have r0w3 : w3.cell? ⟨w.heap.size, 0, none⟩ = some (I 0) := Hb3.out.cell 0
    have r1w3 : w3.cell? ⟨w.heap.size, 1, none⟩ = some (I 0) := Hb3.out.cell 1
    have r2w3 : w3.cell? ⟨w.heap.size, 2, none⟩ = some (I 0) := Hb3.out.cell 2
    have r3w3 : w3.cell? ⟨w.heap.size, 3, none⟩ = some (I 0) := Hb3.out.cell 3
    have r4w3 : w3.cell? ⟨w.heap.size, 4, none⟩ = some (I 0) := Hb3.out.cell 4
    have s0w3 : w3.frozen? ⟨w.heap.size, 0, none⟩ = false := Hb3.out.frozen 0
    have s1w3 : w3.frozen? ⟨w.heap.size, 1, none⟩ = false := Hb3.out.frozen 1
    have s2w3 : w3.frozen? ⟨w.heap.size, 2, none⟩ = false := Hb3.out.frozen 2
    have s3w3 : w3.frozen? ⟨w.heap.size, 3, none⟩ = false := Hb3.out.frozen 3
    have s4w3 : w3.frozen? ⟨w.heap.size, 4, none⟩ = false := Hb3.out.frozen 4
    go_wp2_with fail
    have hB0 : Below w.heap.size w3 _ := ((Below.refl _ _).setCell (p := ⟨g5, 0, none⟩) (Nat.le_of_lt hw5) (I 3))
    refine (below_any 4 (by decide) (by decide) g A n c zs _ (cur_low Hc3.out (hB0.mono (by omega)))).mono ?_
    rintro e w4 ⟨q0, hq00, hq01, rfl, hcw4, hgw4⟩
    have h5w4 : Blk w4 g5 44 #[I 3, I x, I (1 + y), I 0, I 0] := blk_grown (H5.out.set_ 0 (I 3)) hgw4 (by omega)
    have H4w4 := Lib.hid (blk_grown (Hb3.out.far (p := ⟨g5, 0, none⟩) (Nat.ne_of_lt hw5) (I 3)) hgw4 (by omega))
    have H5w4 := Lib.hid h5w4
    have HGw4 := Lib.hid (grown_tr (grown_below HG3.out hB0) hgw4)
    have Hcw4 := Lib.hid hcw4
    have hsw4 := h5w4.lt
    have hvq0 : 0 ≤ q0 ∧ q0 ≤ 1000000000 := by omega
    clear hcw4 hgw4 h5w4 hB0 p0w3 p1w3 p2w3 p3w3 p4w3 q0w3 q1w3 q2w3 q3w3 q4w3 r0w3 r1w3 r2w3 r3w3 r4w3 s0w3 s1w3 s2w3 s3w3 s4w3
    have p0w4 : w4.cell? ⟨g5, 0, none⟩ = some (I 3) := H5w4.out.cell 0
    have p1w4 : w4.cell? ⟨g5, 1, none⟩ = some (I x) := H5w4.out.cell 1
    have p2w4 : w4.cell? ⟨g5, 2, none⟩ = some (I (1 + y)) := H5w4.out.cell 2
    have p3w4 : w4.cell? ⟨g5, 3, none⟩ = some (I 0) := H5w4.out.cell 3
    have p4w4 : w4.cell? ⟨g5, 4, none⟩ = some (I 0) := H5w4.out.cell 4
    have q0w4 : w4.frozen? ⟨g5, 0, none⟩ = false := H5w4.out.frozen 0
    have q1w4 : w4.frozen? ⟨g5, 1, none⟩ = false := H5w4.out.frozen 1
    have q2w4 : w4.frozen? ⟨g5, 2, none⟩ = false := H5w4.out.frozen 2
    have q3w4 : w4.frozen? ⟨g5, 3, none⟩ = false := H5w4.out.frozen 3
    have q4w4 : w4.frozen? ⟨g5, 4, none⟩ = false := H5w4.out.frozen 4
    have r0w4 : w4.cell? ⟨w.heap.size, 0, none⟩ = some (I 0) := H4w4.out.cell 0
    have r1w4 : w4.cell? ⟨w.heap.size, 1, none⟩ = some (I 0) := H4w4.out.cell 1
    have r2w4 : w4.cell? ⟨w.heap.size, 2, none⟩ = some (I 0) := H4w4.out.cell 2
    have r3w4 : w4.cell? ⟨w.heap.size, 3, none⟩ = some (I 0) := H4w4.out.cell 3
    have r4w4 : w4.cell? ⟨w.heap.size, 4, none⟩ = some (I 0) := H4w4.out.cell 4
    have s0w4 : w4.frozen? ⟨w.heap.size, 0, none⟩ = false := H4w4.out.frozen 0
    have s1w4 : w4.frozen? ⟨w.heap.size, 1, none⟩ = false := H4w4.out.frozen 1
    have s2w4 : w4.frozen? ⟨w.heap.size, 2, none⟩ = false := H4w4.out.frozen 2
    have s3w4 : w4.frozen? ⟨w.heap.size, 3, none⟩ = false := H4w4.out.frozen 3
    have s4w4 : w4.frozen? ⟨w.heap.size, 4, none⟩ = false := H4w4.out.frozen 4
    go_wp2_with fail
    have hB1 : Below w.heap.size w4 _ := ((Below.refl _ _).setCell (p := ⟨g5, 3, none⟩) (Nat.le_of_lt hw5) (I q0))
    refine (below_any 999 (by decide) (by decide) g A n c zs _ (cur_low Hcw4.out (hB1.mono (by omega)))).mono ?_
    rintro e w5 ⟨q1, hq10, hq11, rfl, hcw5, hgw5⟩
    have h5w5 : Blk w5 g5 44 #[I 3, I x, I (1 + y), I q0, I 0] := blk_grown (H5w4.out.set_ 3 (I q0)) hgw5 (by omega)
    have H4w5 := Lib.hid (blk_grown (H4w4.out.far (p := ⟨g5, 3, none⟩) (Nat.ne_of_lt hw5) (I q0)) hgw5 (by omega))
    have H5w5 := Lib.hid h5w5
    have HGw5 := Lib.hid (grown_tr (grown_below HGw4.out hB1) hgw5)
    have Hcw5 := Lib.hid hcw5
    have hsw5 := h5w5.lt
    have hvq1 : 0 ≤ 1 + q1 ∧ 1 + q1 ≤ 1000000000 := by omega
    clear hcw5 hgw5 h5w5 hB1 p0w4 p1w4 p2w4 p3w4 p4w4 q0w4 q1w4 q2w4 q3w4 q4w4 r0w4 r1w4 r2w4 r3w4 r4w4 s0w4 s1w4 s2w4 s3w4 s4w4
    have p0w5 : w5.cell? ⟨g5, 0, none⟩ = some (I 3) := H5w5.out.cell 0
    have p1w5 : w5.cell? ⟨g5, 1, none⟩ = some (I x) := H5w5.out.cell 1
    have p2w5 : w5.cell? ⟨g5, 2, none⟩ = some (I (1 + y)) := H5w5.out.cell 2
    have p3w5 : w5.cell? ⟨g5, 3, none⟩ = some (I q0) := H5w5.out.cell 3
    have p4w5 : w5.cell? ⟨g5, 4, none⟩ = some (I 0) := H5w5.out.cell 4
    have q0w5 : w5.frozen? ⟨g5, 0, none⟩ = false := H5w5.out.frozen 0
    have q1w5 : w5.frozen? ⟨g5, 1, none⟩ = false := H5w5.out.frozen 1
    have q2w5 : w5.frozen? ⟨g5, 2, none⟩ = false := H5w5.out.frozen 2
    have q3w5 : w5.frozen? ⟨g5, 3, none⟩ = false := H5w5.out.frozen 3
    have q4w5 : w5.frozen? ⟨g5, 4, none⟩ = false := H5w5.out.frozen 4
    have r0w5 : w5.cell? ⟨w.heap.size, 0, none⟩ = some (I 0) := H4w5.out.cell 0
    have r1w5 : w5.cell? ⟨w.heap.size, 1, none⟩ = some (I 0) := H4w5.out.cell 1
    have r2w5 : w5.cell? ⟨w.heap.size, 2, none⟩ = some (I 0) := H4w5.out.cell 2
    have r3w5 : w5.cell? ⟨w.heap.size, 3, none⟩ = some (I 0) := H4w5.out.cell 3
    have r4w5 : w5.cell? ⟨w.heap.size, 4, none⟩ = some (I 0) := H4w5.out.cell 4
    have s0w5 : w5.frozen? ⟨w.heap.size, 0, none⟩ = false := H4w5.out.frozen 0
    have s1w5 : w5.frozen? ⟨w.heap.size, 1, none⟩ = false := H4w5.out.frozen 1
    have s2w5 : w5.frozen? ⟨w.heap.size, 2, none⟩ = false := H4w5.out.frozen 2
    have s3w5 : w5.frozen? ⟨w.heap.size, 3, none⟩ = false := H4w5.out.frozen 3
    have s4w5 : w5.frozen? ⟨w.heap.size, 4, none⟩ = false := H4w5.out.frozen 4
    go_wp2
    have hB : Below w.heap.size w5 _ := (((((((Below.refl _ _).setCell (p := ⟨g5, 4, none⟩) (Nat.le_of_lt hw5) (I (1 + q1))).setCell (p := ⟨w.heap.size, 0, none⟩) (Nat.le_refl _) (I 3)).setCell (p := ⟨w.heap.size, 1, none⟩) (Nat.le_refl _) (I x)).setCell (p := ⟨w.heap.size, 2, none⟩) (Nat.le_refl _) (I (1 + y))).setCell (p := ⟨w.heap.size, 3, none⟩) (Nat.le_refl _) (I q0)).setCell (p := ⟨w.heap.size, 4, none⟩) (Nat.le_refl _) (I (1 + q1)))
    refine bodyPost_ret (ret_act1 Tryd.results75 (p := 4) (g := w.heap.size) rfl (Blk.set5 (H4w5.out.far (p := ⟨g5, 4, none⟩) (Nat.ne_of_lt hw5) (I (1 + q1))) (I 3) (I x) (I (1 + y)) (I q0) (I (1 + q1)))) rfl (actRet_mk (k := 3) (by decide) (by decide) hx hy hvq0 hvq1 (cur_low Hcw5.out (hB.mono (by omega))) (grown_below HGw5.out hB))
  · have p0w3 : w3.cell? ⟨g5, 0, none⟩ = some (I 0) := H5.out.cell 0
    have p1w3 : w3.cell? ⟨g5, 1, none⟩ = some (I x) := H5.out.cell 1
    have p2w3 : w3.cell? ⟨g5, 2, none⟩ = some (I (1 + y)) := H5.out.cell 2
    have p3w3 : w3.cell? ⟨g5, 3, none⟩ = some (I 0) := H5.out.cell 3
    have p4w3 : w3.cell? ⟨g5, 4, none⟩ = some (I 0) := H5.out.cell 4
    have q0w3 : w3.frozen? ⟨g5, 0, none⟩ = false := H5.out.frozen 0
    have q1w3 : w3.frozen? ⟨g5, 1, none⟩ = false := H5.out.frozen 1
    have q2w3 : w3.frozen? ⟨g5, 2, none⟩ = false := H5.out.frozen 2
    have q3w3 : w3.frozen? ⟨g5, 3, none⟩ = false := H5.out.frozen 3
    have q4w3 : w3.frozen? ⟨g5, 4, none⟩ = false := H5.out.frozen 4
    have r0w3 : w3.cell? ⟨w.heap.size, 0, none⟩ = some (I 0) := Hb3.out.cell 0
    have r1w3 : w3.cell? ⟨w.heap.size, 1, none⟩ = some (I 0) := Hb3.out.cell 1
    have r2w3 : w3.cell? ⟨w.heap.size, 2, none⟩ = some (I 0) := Hb3.out.cell 2
    have r3w3 : w3.cell? ⟨w.heap.size, 3, none⟩ = some (I 0) := Hb3.out.cell 3
    have r4w3 : w3.cell? ⟨w.heap.size, 4, none⟩ = some (I 0) := Hb3.out.cell 4
    have s0w3 : w3.frozen? ⟨w.heap.size, 0, none⟩ = false := Hb3.out.frozen 0
    have s1w3 : w3.frozen? ⟨w.heap.size, 1, none⟩ = false := Hb3.out.frozen 1
    have s2w3 : w3.frozen? ⟨w.heap.size, 2, none⟩ = false := Hb3.out.frozen 2
    have s3w3 : w3.frozen? ⟨w.heap.size, 3, none⟩ = false := Hb3.out.frozen 3
    have s4w3 : w3.frozen? ⟨w.heap.size, 4, none⟩ = false := Hb3.out.frozen 4
    go_wp2_with fail
    have hB0 : Below w.heap.size w3 _ := ((Below.refl _ _).setCell (p := ⟨g5, 0, none⟩) (Nat.le_of_lt hw5) (I 3))
    refine (below_any 4 (by decide) (by decide) g A n c zs _ (cur_low Hc3.out (hB0.mono (by omega)))).mono ?_
    rintro e w4 ⟨q0, hq00, hq01, rfl, hcw4, hgw4⟩
    have h5w4 : Blk w4 g5 44 #[I 3, I x, I (1 + y), I 0, I 0] := blk_grown (H5.out.set_ 0 (I 3)) hgw4 (by omega)
    have H4w4 := Lib.hid (blk_grown (Hb3.out.far (p := ⟨g5, 0, none⟩) (Nat.ne_of_lt hw5) (I 3)) hgw4 (by omega))
    have H5w4 := Lib.hid h5w4
    have HGw4 := Lib.hid (grown_tr (grown_below HG3.out hB0) hgw4)
    have Hcw4 := Lib.hid hcw4
    have hsw4 := h5w4.lt
    have hvq0 : 0 ≤ q0 ∧ q0 ≤ 1000000000 := by omega
    clear hcw4 hgw4 h5w4 hB0 p0w3 p1w3 p2w3 p3w3 p4w3 q0w3 q1w3 q2w3 q3w3 q4w3 r0w3 r1w3 r2w3 r3w3 r4w3 s0w3 s1w3 s2w3 s3w3 s4w3
    have p0w4 : w4.cell? ⟨g5, 0, none⟩ = some (I 3) := H5w4.out.cell 0
    have p1w4 : w4.cell? ⟨g5, 1, none⟩ = some (I x) := H5w4.out.cell 1
    have p2w4 : w4.cell? ⟨g5, 2, none⟩ = some (I (1 + y)) := H5w4.out.cell 2
    have p3w4 : w4.cell? ⟨g5, 3, none⟩ = some (I 0) := H5w4.out.cell 3
    have p4w4 : w4.cell? ⟨g5, 4, none⟩ = some (I 0) := H5w4.out.cell 4
    have q0w4 : w4.frozen? ⟨g5, 0, none⟩ = false := H5w4.out.frozen 0
    have q1w4 : w4.frozen? ⟨g5, 1, none⟩ = false := H5w4.out.frozen 1
    have q2w4 : w4.frozen? ⟨g5, 2, none⟩ = false := H5w4.out.frozen 2
    have q3w4 : w4.frozen? ⟨g5, 3, none⟩ = false := H5w4.out.frozen 3
    have q4w4 : w4.frozen? ⟨g5, 4, none⟩ = false := H5w4.out.frozen 4
    have r0w4 : w4.cell? ⟨w.heap.size, 0, none⟩ = some (I 0) := H4w4.out.cell 0
    have r1w4 : w4.cell? ⟨w.heap.size, 1, none⟩ = some (I 0) := H4w4.out.cell 1
    have r2w4 : w4.cell? ⟨w.heap.size, 2, none⟩ = some (I 0) := H4w4.out.cell 2
    have r3w4 : w4.cell? ⟨w.heap.size, 3, none⟩ = some (I 0) := H4w4.out.cell 3
    have r4w4 : w4.cell? ⟨w.heap.size, 4, none⟩ = some (I 0) := H4w4.out.cell 4
    have s0w4 : w4.frozen? ⟨w.heap.size, 0, none⟩ = false := H4w4.out.frozen 0
    have s1w4 : w4.frozen? ⟨w.heap.size, 1, none⟩ = false := H4w4.out.frozen 1
    have s2w4 : w4.frozen? ⟨w.heap.size, 2, none⟩ = false := H4w4.out.frozen 2
    have s3w4 : w4.frozen? ⟨w.heap.size, 3, none⟩ = false := H4w4.out.frozen 3
    have s4w4 : w4.frozen? ⟨w.heap.size, 4, none⟩ = false := H4w4.out.frozen 4
    go_wp2_with fail
    have hB1 : Below w.heap.size w4 _ := ((Below.refl _ _).setCell (p := ⟨g5, 3, none⟩) (Nat.le_of_lt hw5) (I q0))
    refine (below_any 999 (by decide) (by decide) g A n c zs _ (cur_low Hcw4.out (hB1.mono (by omega)))).mono ?_
    rintro e w5 ⟨q1, hq10, hq11, rfl, hcw5, hgw5⟩
    have h5w5 : Blk w5 g5 44 #[I 3, I x, I (1 + y), I q0, I 0] := blk_grown (H5w4.out.set_ 3 (I q0)) hgw5 (by omega)
    have H4w5 := Lib.hid (blk_grown (H4w4.out.far (p := ⟨g5, 3, none⟩) (Nat.ne_of_lt hw5) (I q0)) hgw5 (by omega))
    have H5w5 := Lib.hid h5w5
    have HGw5 := Lib.hid (grown_tr (grown_below HGw4.out hB1) hgw5)
    have Hcw5 := Lib.hid hcw5
    have hsw5 := h5w5.lt
    have hvq1 : 0 ≤ 1 + q1 ∧ 1 + q1 ≤ 1000000000 := by omega
    clear hcw5 hgw5 h5w5 hB1 p0w4 p1w4 p2w4 p3w4 p4w4 q0w4 q1w4 q2w4 q3w4 q4w4 r0w4 r1w4 r2w4 r3w4 r4w4 s0w4 s1w4 s2w4 s3w4 s4w4
    have p0w5 : w5.cell? ⟨g5, 0, none⟩ = some (I 3) := H5w5.out.cell 0
    have p1w5 : w5.cell? ⟨g5, 1, none⟩ = some (I x) := H5w5.out.cell 1
    have p2w5 : w5.cell? ⟨g5, 2, none⟩ = some (I (1 + y)) := H5w5.out.cell 2
    have p3w5 : w5.cell? ⟨g5, 3, none⟩ = some (I q0) := H5w5.out.cell 3
    have p4w5 : w5.cell? ⟨g5, 4, none⟩ = some (I 0) := H5w5.out.cell 4
    have q0w5 : w5.frozen? ⟨g5, 0, none⟩ = false := H5w5.out.frozen 0
    have q1w5 : w5.frozen? ⟨g5, 1, none⟩ = false := H5w5.out.frozen 1
    have q2w5 : w5.frozen? ⟨g5, 2, none⟩ = false := H5w5.out.frozen 2
    have q3w5 : w5.frozen? ⟨g5, 3, none⟩ = false := H5w5.out.frozen 3
    have q4w5 : w5.frozen? ⟨g5, 4, none⟩ = false := H5w5.out.frozen 4
    have r0w5 : w5.cell? ⟨w.heap.size, 0, none⟩ = some (I 0) := H4w5.out.cell 0
    have r1w5 : w5.cell? ⟨w.heap.size, 1, none⟩ = some (I 0) := H4w5.out.cell 1
    have r2w5 : w5.cell? ⟨w.heap.size, 2, none⟩ = some (I 0) := H4w5.out.cell 2
    have r3w5 : w5.cell? ⟨w.heap.size, 3, none⟩ = some (I 0) := H4w5.out.cell 3
    have r4w5 : w5.cell? ⟨w.heap.size, 4, none⟩ = some (I 0) := H4w5.out.cell 4
    have s0w5 : w5.frozen? ⟨w.heap.size, 0, none⟩ = false := H4w5.out.frozen 0
    have s1w5 : w5.frozen? ⟨w.heap.size, 1, none⟩ = false := H4w5.out.frozen 1
    have s2w5 : w5.frozen? ⟨w.heap.size, 2, none⟩ = false := H4w5.out.frozen 2
    have s3w5 : w5.frozen? ⟨w.heap.size, 3, none⟩ = false := H4w5.out.frozen 3
    have s4w5 : w5.frozen? ⟨w.heap.size, 4, none⟩ = false := H4w5.out.frozen 4
    go_wp2
    have hB : Below w.heap.size w5 _ := (((((((Below.refl _ _).setCell (p := ⟨g5, 4, none⟩) (Nat.le_of_lt hw5) (I (1 + q1))).setCell (p := ⟨w.heap.size, 0, none⟩) (Nat.le_refl _) (I 3)).setCell (p := ⟨w.heap.size, 1, none⟩) (Nat.le_refl _) (I x)).setCell (p := ⟨w.heap.size, 2, none⟩) (Nat.le_refl _) (I (1 + y))).setCell (p := ⟨w.heap.size, 3, none⟩) (Nat.le_refl _) (I q0)).setCell (p := ⟨w.heap.size, 4, none⟩) (Nat.le_refl _) (I (1 + q1)))
    refine bodyPost_ret (ret_act1 Tryd.results75 (p := 4) (g := w.heap.size) rfl (Blk.set5 (H4w5.out.far (p := ⟨g5, 4, none⟩) (Nat.ne_of_lt hw5) (I (1 + q1))) (I 3) (I x) (I (1 + y)) (I q0) (I (1 + q1)))) rfl (actRet_mk (k := 3) (by decide) (by decide) hx hy hvq0 hvq1 (cur_low Hcw5.out (hB.mono (by omega))) (grown_below HGw5.out hB))
  · have p0w3 : w3.cell? ⟨g5, 0, none⟩ = some (I 0) := H5.out.cell 0
    have p1w3 : w3.cell? ⟨g5, 1, none⟩ = some (I x) := H5.out.cell 1
    have p2w3 : w3.cell? ⟨g5, 2, none⟩ = some (I (1 + y)) := H5.out.cell 2
    have p3w3 : w3.cell? ⟨g5, 3, none⟩ = some (I 0) := H5.out.cell 3
    have p4w3 : w3.cell? ⟨g5, 4, none⟩ = some (I 0) := H5.out.cell 4
    have q0w3 : w3.frozen? ⟨g5, 0, none⟩ = false := H5.out.frozen 0
    have q1w3 : w3.frozen? ⟨g5, 1, none⟩ = false := H5.out.frozen 1
    have q2w3 : w3.frozen? ⟨g5, 2, none⟩ = false := H5.out.frozen 2
    have q3w3 : w3.frozen? ⟨g5, 3, none⟩ = false := H5.out.frozen 3
    have q4w3 : w3.frozen? ⟨g5, 4, none⟩ = false := H5.out.frozen 4
    have r0w3 : w3.cell? ⟨w.heap.size, 0, none⟩ = some (I 0) := Hb3.out.cell 0
    have r1w3 : w3.cell? ⟨w.heap.size, 1, none⟩ = some (I 0) := Hb3.out.cell 1
    have r2w3 : w3.cell? ⟨w.heap.size, 2, none⟩ = some (I 0) := Hb3.out.cell 2
    have r3w3 : w3.cell? ⟨w.heap.size, 3, none⟩ = some (I 0) := Hb3.out.cell 3
    have r4w3 : w3.cell? ⟨w.heap.size, 4, none⟩ = some (I 0) := Hb3.out.cell 4
    have s0w3 : w3.frozen? ⟨w.heap.size, 0, none⟩ = false := Hb3.out.frozen 0
    have s1w3 : w3.frozen? ⟨w.heap.size, 1, none⟩ = false := Hb3.out.frozen 1
    have s2w3 : w3.frozen? ⟨w.heap.size, 2, none⟩ = false := Hb3.out.frozen 2
    have s3w3 : w3.frozen? ⟨w.heap.size, 3, none⟩ = false := Hb3.out.frozen 3
    have s4w3 : w3.frozen? ⟨w.heap.size, 4, none⟩ = false := Hb3.out.frozen 4
    go_wp2_with fail
    have hB0 : Below w.heap.size w3 _ := ((Below.refl _ _).setCell (p := ⟨g5, 0, none⟩) (Nat.le_of_lt hw5) (I 3))
    refine (below_any 4 (by decide) (by decide) g A n c zs _ (cur_low Hc3.out (hB0.mono (by omega)))).mono ?_
    rintro e w4 ⟨q0, hq00, hq01, rfl, hcw4, hgw4⟩
    have h5w4 : Blk w4 g5 44 #[I 3, I x, I (1 + y), I 0, I 0] := blk_grown (H5.out.set_ 0 (I 3)) hgw4 (by omega)
    have H4w4 := Lib.hid (blk_grown (Hb3.out.far (p := ⟨g5, 0, none⟩) (Nat.ne_of_lt hw5) (I 3)) hgw4 (by omega))
    have H5w4 := Lib.hid h5w4
    have HGw4 := Lib.hid (grown_tr (grown_below HG3.out hB0) hgw4)
    have Hcw4 := Lib.hid hcw4
    have hsw4 := h5w4.lt
    have hvq0 : 0 ≤ q0 ∧ q0 ≤ 1000000000 := by omega
    clear hcw4 hgw4 h5w4 hB0 p0w3 p1w3 p2w3 p3w3 p4w3 q0w3 q1w3 q2w3 q3w3 q4w3 r0w3 r1w3 r2w3 r3w3 r4w3 s0w3 s1w3 s2w3 s3w3 s4w3
    have p0w4 : w4.cell? ⟨g5, 0, none⟩ = some (I 3) := H5w4.out.cell 0
    have p1w4 : w4.cell? ⟨g5, 1, none⟩ = some (I x) := H5w4.out.cell 1
    have p2w4 : w4.cell? ⟨g5, 2, none⟩ = some (I (1 + y)) := H5w4.out.cell 2
    have p3w4 : w4.cell? ⟨g5, 3, none⟩ = some (I 0) := H5w4.out.cell 3
    have p4w4 : w4.cell? ⟨g5, 4, none⟩ = some (I 0) := H5w4.out.cell 4
    have q0w4 : w4.frozen? ⟨g5, 0, none⟩ = false := H5w4.out.frozen 0
    have q1w4 : w4.frozen? ⟨g5, 1, none⟩ = false := H5w4.out.frozen 1
    have q2w4 : w4.frozen? ⟨g5, 2, none⟩ = false := H5w4.out.frozen 2
    have q3w4 : w4.frozen? ⟨g5, 3, none⟩ = false := H5w4.out.frozen 3
    have q4w4 : w4.frozen? ⟨g5, 4, none⟩ = false := H5w4.out.frozen 4
    have r0w4 : w4.cell? ⟨w.heap.size, 0, none⟩ = some (I 0) := H4w4.out.cell 0
    have r1w4 : w4.cell? ⟨w.heap.size, 1, none⟩ = some (I 0) := H4w4.out.cell 1
    have r2w4 : w4.cell? ⟨w.heap.size, 2, none⟩ = some (I 0) := H4w4.out.cell 2
    have r3w4 : w4.cell? ⟨w.heap.size, 3, none⟩ = some (I 0) := H4w4.out.cell 3
    have r4w4 : w4.cell? ⟨w.heap.size, 4, none⟩ = some (I 0) := H4w4.out.cell 4
    have s0w4 : w4.frozen? ⟨w.heap.size, 0, none⟩ = false := H4w4.out.frozen 0
    have s1w4 : w4.frozen? ⟨w.heap.size, 1, none⟩ = false := H4w4.out.frozen 1
    have s2w4 : w4.frozen? ⟨w.heap.size, 2, none⟩ = false := H4w4.out.frozen 2
    have s3w4 : w4.frozen? ⟨w.heap.size, 3, none⟩ = false := H4w4.out.frozen 3
    have s4w4 : w4.frozen? ⟨w.heap.size, 4, none⟩ = false := H4w4.out.frozen 4
    go_wp2_with fail
    have hB1 : Below w.heap.size w4 _ := ((Below.refl _ _).setCell (p := ⟨g5, 3, none⟩) (Nat.le_of_lt hw5) (I q0))
    refine (below_any 999 (by decide) (by decide) g A n c zs _ (cur_low Hcw4.out (hB1.mono (by omega)))).mono ?_
    rintro e w5 ⟨q1, hq10, hq11, rfl, hcw5, hgw5⟩
    have h5w5 : Blk w5 g5 44 #[I 3, I x, I (1 + y), I q0, I 0] := blk_grown (H5w4.out.set_ 3 (I q0)) hgw5 (by omega)
    have H4w5 := Lib.hid (blk_grown (H4w4.out.far (p := ⟨g5, 3, none⟩) (Nat.ne_of_lt hw5) (I q0)) hgw5 (by omega))
    have H5w5 := Lib.hid h5w5
    have HGw5 := Lib.hid (grown_tr (grown_below HGw4.out hB1) hgw5)
    have Hcw5 := Lib.hid hcw5
    have hsw5 := h5w5.lt
    have hvq1 : 0 ≤ 1 + q1 ∧ 1 + q1 ≤ 1000000000 := by omega
    clear hcw5 hgw5 h5w5 hB1 p0w4 p1w4 p2w4 p3w4 p4w4 q0w4 q1w4 q2w4 q3w4 q4w4 r0w4 r1w4 r2w4 r3w4 r4w4 s0w4 s1w4 s2w4 s3w4 s4w4
    have p0w5 : w5.cell? ⟨g5, 0, none⟩ = some (I 3) := H5w5.out.cell 0
    have p1w5 : w5.cell? ⟨g5, 1, none⟩ = some (I x) := H5w5.out.cell 1
    have p2w5 : w5.cell? ⟨g5, 2, none⟩ = some (I (1 + y)) := H5w5.out.cell 2
    have p3w5 : w5.cell? ⟨g5, 3, none⟩ = some (I q0) := H5w5.out.cell 3
    have p4w5 : w5.cell? ⟨g5, 4, none⟩ = some (I 0) := H5w5.out.cell 4
    have q0w5 : w5.frozen? ⟨g5, 0, none⟩ = false := H5w5.out.frozen 0
    have q1w5 : w5.frozen? ⟨g5, 1, none⟩ = false := H5w5.out.frozen 1
    have q2w5 : w5.frozen? ⟨g5, 2, none⟩ = false := H5w5.out.frozen 2
    have q3w5 : w5.frozen? ⟨g5, 3, none⟩ = false := H5w5.out.frozen 3
    have q4w5 : w5.frozen? ⟨g5, 4, none⟩ = false := H5w5.out.frozen 4
    have r0w5 : w5.cell? ⟨w.heap.size, 0, none⟩ = some (I 0) := H4w5.out.cell 0
    have r1w5 : w5.cell? ⟨w.heap.size, 1, none⟩ = some (I 0) := H4w5.out.cell 1
    have r2w5 : w5.cell? ⟨w.heap.size, 2, none⟩ = some (I 0) := H4w5.out.cell 2
    have r3w5 : w5.cell? ⟨w.heap.size, 3, none⟩ = some (I 0) := H4w5.out.cell 3
    have r4w5 : w5.cell? ⟨w.heap.size, 4, none⟩ = some (I 0) := H4w5.out.cell 4
    have s0w5 : w5.frozen? ⟨w.heap.size, 0, none⟩ = false := H4w5.out.frozen 0
    have s1w5 : w5.frozen? ⟨w.heap.size, 1, none⟩ = false := H4w5.out.frozen 1
    have s2w5 : w5.frozen? ⟨w.heap.size, 2, none⟩ = false := H4w5.out.frozen 2
    have s3w5 : w5.frozen? ⟨w.heap.size, 3, none⟩ = false := H4w5.out.frozen 3
    have s4w5 : w5.frozen? ⟨w.heap.size, 4, none⟩ = false := H4w5.out.frozen 4
    go_wp2
    have hB : Below w.heap.size w5 _ := (((((((Below.refl _ _).setCell (p := ⟨g5, 4, none⟩) (Nat.le_of_lt hw5) (I (1 + q1))).setCell (p := ⟨w.heap.size, 0, none⟩) (Nat.le_refl _) (I 3)).setCell (p := ⟨w.heap.size, 1, none⟩) (Nat.le_refl _) (I x)).setCell (p := ⟨w.heap.size, 2, none⟩) (Nat.le_refl _) (I (1 + y))).setCell (p := ⟨w.heap.size, 3, none⟩) (Nat.le_refl _) (I q0)).setCell (p := ⟨w.heap.size, 4, none⟩) (Nat.le_refl _) (I (1 + q1)))
    refine bodyPost_ret (ret_act1 Tryd.results75 (p := 4) (g := w.heap.size) rfl (Blk.set5 (H4w5.out.far (p := ⟨g5, 4, none⟩) (Nat.ne_of_lt hw5) (I (1 + q1))) (I 3) (I x) (I (1 + y)) (I q0) (I (1 + q1)))) rfl (actRet_mk (k := 3) (by decide) (by decide) hx hy hvq0 hvq1 (cur_low Hcw5.out (hB.mono (by omega))) (grown_below HGw5.out hB))
  · have p0w3 : w3.cell? ⟨g5, 0, none⟩ = some (I 0) := H5.out.cell 0
    have p1w3 : w3.cell? ⟨g5, 1, none⟩ = some (I x) := H5.out.cell 1
    have p2w3 : w3.cell? ⟨g5, 2, none⟩ = some (I (1 + y)) := H5.out.cell 2
    have p3w3 : w3.cell? ⟨g5, 3, none⟩ = some (I 0) := H5.out.cell 3
    have p4w3 : w3.cell? ⟨g5, 4, none⟩ = some (I 0) := H5.out.cell 4
    have q0w3 : w3.frozen? ⟨g5, 0, none⟩ = false := H5.out.frozen 0
    have q1w3 : w3.frozen? ⟨g5, 1, none⟩ = false := H5.out.frozen 1
    have q2w3 : w3.frozen? ⟨g5, 2, none⟩ = false := H5.out.frozen 2
    have q3w3 : w3.frozen? ⟨g5, 3, none⟩ = false := H5.out.frozen 3
    have q4w3 : w3.frozen? ⟨g5, 4, none⟩ = false := H5.out.frozen 4
    have r0w3 : w3.cell? ⟨w.heap.size, 0, none⟩ = some (I 0) := Hb3.out.cell 0
    have r1w3 : w3.cell? ⟨w.heap.size, 1, none⟩ = some (I 0) := Hb3.out.cell 1
    have r2w3 : w3.cell? ⟨w.heap.size, 2, none⟩ = some (I 0) := Hb3.out.cell 2
    have r3w3 : w3.cell? ⟨w.heap.size, 3, none⟩ = some (I 0) := Hb3.out.cell 3
    have r4w3 : w3.cell? ⟨w.heap.size, 4, none⟩ = some (I 0) := Hb3.out.cell 4
    have s0w3 : w3.frozen? ⟨w.heap.size, 0, none⟩ = false := Hb3.out.frozen 0
    have s1w3 : w3.frozen? ⟨w.heap.size, 1, none⟩ = false := Hb3.out.frozen 1
    have s2w3 : w3.frozen? ⟨w.heap.size, 2, none⟩ = false := Hb3.out.frozen 2
    have s3w3 : w3.frozen? ⟨w.heap.size, 3, none⟩ = false := Hb3.out.frozen 3
    have s4w3 : w3.frozen? ⟨w.heap.size, 4, none⟩ = false := Hb3.out.frozen 4
    go_wp2_with fail
    have hB0 : Below w.heap.size w3 _ := ((Below.refl _ _).setCell (p := ⟨g5, 0, none⟩) (Nat.le_of_lt hw5) (I 4))
    refine (below_any 10 (by decide) (by decide) g A n c zs _ (cur_low Hc3.out (hB0.mono (by omega)))).mono ?_
    rintro e w4 ⟨q0, hq00, hq01, rfl, hcw4, hgw4⟩
    have h5w4 : Blk w4 g5 44 #[I 4, I x, I (1 + y), I 0, I 0] := blk_grown (H5.out.set_ 0 (I 4)) hgw4 (by omega)
    have H4w4 := Lib.hid (blk_grown (Hb3.out.far (p := ⟨g5, 0, none⟩) (Nat.ne_of_lt hw5) (I 4)) hgw4 (by omega))
    have H5w4 := Lib.hid h5w4
    have HGw4 := Lib.hid (grown_tr (grown_below HG3.out hB0) hgw4)
    have Hcw4 := Lib.hid hcw4
    have hsw4 := h5w4.lt
    have hvq0 : 0 ≤ 9 + q0 ∧ 9 + q0 ≤ 1000000000 := by omega
    clear hcw4 hgw4 h5w4 hB0 p0w3 p1w3 p2w3 p3w3 p4w3 q0w3 q1w3 q2w3 q3w3 q4w3 r0w3 r1w3 r2w3 r3w3 r4w3 s0w3 s1w3 s2w3 s3w3 s4w3
    have p0w4 : w4.cell? ⟨g5, 0, none⟩ = some (I 4) := H5w4.out.cell 0
    have p1w4 : w4.cell? ⟨g5, 1, none⟩ = some (I x) := H5w4.out.cell 1
    have p2w4 : w4.cell? ⟨g5, 2, none⟩ = some (I (1 + y)) := H5w4.out.cell 2
    have p3w4 : w4.cell? ⟨g5, 3, none⟩ = some (I 0) := H5w4.out.cell 3
    have p4w4 : w4.cell? ⟨g5, 4, none⟩ = some (I 0) := H5w4.out.cell 4
    have q0w4 : w4.frozen? ⟨g5, 0, none⟩ = false := H5w4.out.frozen 0
    have q1w4 : w4.frozen? ⟨g5, 1, none⟩ = false := H5w4.out.frozen 1
    have q2w4 : w4.frozen? ⟨g5, 2, none⟩ = false := H5w4.out.frozen 2
    have q3w4 : w4.frozen? ⟨g5, 3, none⟩ = false := H5w4.out.frozen 3
    have q4w4 : w4.frozen? ⟨g5, 4, none⟩ = false := H5w4.out.frozen 4
    have r0w4 : w4.cell? ⟨w.heap.size, 0, none⟩ = some (I 0) := H4w4.out.cell 0
    have r1w4 : w4.cell? ⟨w.heap.size, 1, none⟩ = some (I 0) := H4w4.out.cell 1
    have r2w4 : w4.cell? ⟨w.heap.size, 2, none⟩ = some (I 0) := H4w4.out.cell 2
    have r3w4 : w4.cell? ⟨w.heap.size, 3, none⟩ = some (I 0) := H4w4.out.cell 3
    have r4w4 : w4.cell? ⟨w.heap.size, 4, none⟩ = some (I 0) := H4w4.out.cell 4
    have s0w4 : w4.frozen? ⟨w.heap.size, 0, none⟩ = false := H4w4.out.frozen 0
    have s1w4 : w4.frozen? ⟨w.heap.size, 1, none⟩ = false := H4w4.out.frozen 1
    have s2w4 : w4.frozen? ⟨w.heap.size, 2, none⟩ = false := H4w4.out.frozen 2
    have s3w4 : w4.frozen? ⟨w.heap.size, 3, none⟩ = false := H4w4.out.frozen 3
    have s4w4 : w4.frozen? ⟨w.heap.size, 4, none⟩ = false := H4w4.out.frozen 4
    go_wp2
    have hB : Below w.heap.size w4 _ := (((((((Below.refl _ _).setCell (p := ⟨g5, 4, none⟩) (Nat.le_of_lt hw5) (I (9 + q0))).setCell (p := ⟨w.heap.size, 0, none⟩) (Nat.le_refl _) (I 4)).setCell (p := ⟨w.heap.size, 1, none⟩) (Nat.le_refl _) (I x)).setCell (p := ⟨w.heap.size, 2, none⟩) (Nat.le_refl _) (I (1 + y))).setCell (p := ⟨w.heap.size, 3, none⟩) (Nat.le_refl _) (I 0)).setCell (p := ⟨w.heap.size, 4, none⟩) (Nat.le_refl _) (I (9 + q0)))
    refine bodyPost_ret (ret_act1 Tryd.results75 (p := 4) (g := w.heap.size) rfl (Blk.set5 (H4w4.out.far (p := ⟨g5, 4, none⟩) (Nat.ne_of_lt hw5) (I (9 + q0))) (I 4) (I x) (I (1 + y)) (I 0) (I (9 + q0)))) rfl (actRet_mk (k := 4) (by decide) (by decide) hx hy (by decide) hvq0 (cur_low Hcw4.out (hB.mono (by omega))) (grown_below HGw4.out hB))
  · have p0w3 : w3.cell? ⟨g5, 0, none⟩ = some (I 0) := H5.out.cell 0
    have p1w3 : w3.cell? ⟨g5, 1, none⟩ = some (I x) := H5.out.cell 1
    have p2w3 : w3.cell? ⟨g5, 2, none⟩ = some (I (1 + y)) := H5.out.cell 2
    have p3w3 : w3.cell? ⟨g5, 3, none⟩ = some (I 0) := H5.out.cell 3
    have p4w3 : w3.cell? ⟨g5, 4, none⟩ = some (I 0) := H5.out.cell 4
    have q0w3 : w3.frozen? ⟨g5, 0, none⟩ = false := H5.out.frozen 0
    have q1w3 : w3.frozen? ⟨g5, 1, none⟩ = false := H5.out.frozen 1
    have q2w3 : w3.frozen? ⟨g5, 2, none⟩ = false := H5.out.frozen 2
    have q3w3 : w3.frozen? ⟨g5, 3, none⟩ = false := H5.out.frozen 3
    have q4w3 : w3.frozen? ⟨g5, 4, none⟩ = false := H5.out.frozen 4
    have r0w3 : w3.cell? ⟨w.heap.size, 0, none⟩ = some (I 0) := Hb3.out.cell 0
    have r1w3 : w3.cell? ⟨w.heap.size, 1, none⟩ = some (I 0) := Hb3.out.cell 1
    have r2w3 : w3.cell? ⟨w.heap.size, 2, none⟩ = some (I 0) := Hb3.out.cell 2
    have r3w3 : w3.cell? ⟨w.heap.size, 3, none⟩ = some (I 0) := Hb3.out.cell 3
    have r4w3 : w3.cell? ⟨w.heap.size, 4, none⟩ = some (I 0) := Hb3.out.cell 4
    have s0w3 : w3.frozen? ⟨w.heap.size, 0, none⟩ = false := Hb3.out.frozen 0
    have s1w3 : w3.frozen? ⟨w.heap.size, 1, none⟩ = false := Hb3.out.frozen 1
    have s2w3 : w3.frozen? ⟨w.heap.size, 2, none⟩ = false := Hb3.out.frozen 2
    have s3w3 : w3.frozen? ⟨w.heap.size, 3, none⟩ = false := Hb3.out.frozen 3
    have s4w3 : w3.frozen? ⟨w.heap.size, 4, none⟩ = false := Hb3.out.frozen 4
    go_wp2_with fail
    have hB3 : Below w.heap.size w3 _ := ((Below.refl _ _).alloc (by omega) (.cells #[I 5, I 6] 3))
    refine (pick_lit [5, 6] 2 w3.heap.size 3 #[I 5, I 6] rfl rfl (by decide) (by decide) g A n c 2 zs _ (cur_low Hc3.out (hB3.mono (by omega))) (Pl.blk_new' rfl) (by omega)).mono ?_
    rintro e w4 ⟨q, hq, rfl, hc4, hg4⟩
    have h54 : Blk w4 g5 44 #[I 0, I x, I (1 + y), I 0, I 0] := blk_grown (H5.out.alloc (.cells #[I 5, I 6] 3)) hg4 (by omega)
    have Hb4 := Lib.hid (blk_grown (Hb3.out.alloc (.cells #[I 5, I 6] 3)) hg4 (by omega))
    have H54 := Lib.hid h54
    have HG4 := Lib.hid (grown_tr (grown_below HG3.out hB3) hg4)
    have Hc4 := Lib.hid hc4
    have hs4 := h54.lt
    have hql := inR_of [5, 6] (by decide) q
    obtain ⟨u, hu⟩ : ∃ u, gI [5, 6] q = u := ⟨_, rfl⟩
    obtain ⟨k, hk, hk1, hk2⟩ : ∃ k : Nat, gI [5, 6] q = (k : Int) ∧ 1 ≤ k ∧ k ≤ 10 := by
      rcases (show q = 0 ∨ q = 1 by simp at hq; omega) with rfl | rfl
      · exact ⟨5, rfl, by decide, by decide⟩
      · exact ⟨6, rfl, by decide, by decide⟩
    clear hu hql hq hc4 hg4 h54 hB3 p0w3 p1w3 p2w3 p3w3 p4w3 q0w3 q1w3 q2w3 q3w3 q4w3 r0w3 r1w3 r2w3 r3w3 r4w3 s0w3 s1w3 s2w3 s3w3 s4w3
    rw [hk]
    have p0w4 : w4.cell? ⟨g5, 0, none⟩ = some (I 0) := H54.out.cell 0
    have p1w4 : w4.cell? ⟨g5, 1, none⟩ = some (I x) := H54.out.cell 1
    have p2w4 : w4.cell? ⟨g5, 2, none⟩ = some (I (1 + y)) := H54.out.cell 2
    have p3w4 : w4.cell? ⟨g5, 3, none⟩ = some (I 0) := H54.out.cell 3
    have p4w4 : w4.cell? ⟨g5, 4, none⟩ = some (I 0) := H54.out.cell 4
    have q0w4 : w4.frozen? ⟨g5, 0, none⟩ = false := H54.out.frozen 0
    have q1w4 : w4.frozen? ⟨g5, 1, none⟩ = false := H54.out.frozen 1
    have q2w4 : w4.frozen? ⟨g5, 2, none⟩ = false := H54.out.frozen 2
    have q3w4 : w4.frozen? ⟨g5, 3, none⟩ = false := H54.out.frozen 3
    have q4w4 : w4.frozen? ⟨g5, 4, none⟩ = false := H54.out.frozen 4
    have r0w4 : w4.cell? ⟨w.heap.size, 0, none⟩ = some (I 0) := Hb4.out.cell 0
    have r1w4 : w4.cell? ⟨w.heap.size, 1, none⟩ = some (I 0) := Hb4.out.cell 1
    have r2w4 : w4.cell? ⟨w.heap.size, 2, none⟩ = some (I 0) := Hb4.out.cell 2
    have r3w4 : w4.cell? ⟨w.heap.size, 3, none⟩ = some (I 0) := Hb4.out.cell 3
    have r4w4 : w4.cell? ⟨w.heap.size, 4, none⟩ = some (I 0) := Hb4.out.cell 4
    have s0w4 : w4.frozen? ⟨w.heap.size, 0, none⟩ = false := Hb4.out.frozen 0
    have s1w4 : w4.frozen? ⟨w.heap.size, 1, none⟩ = false := Hb4.out.frozen 1
    have s2w4 : w4.frozen? ⟨w.heap.size, 2, none⟩ = false := Hb4.out.frozen 2
    have s3w4 : w4.frozen? ⟨w.heap.size, 3, none⟩ = false := Hb4.out.frozen 3
    have s4w4 : w4.frozen? ⟨w.heap.size, 4, none⟩ = false := Hb4.out.frozen 4
    go_wp2
    have hB : Below w.heap.size w4 _ := (((((((Below.refl _ _).setCell (p := ⟨g5, 0, none⟩) (Nat.le_of_lt hw5) (I (k : Int))).setCell (p := ⟨w.heap.size, 0, none⟩) (Nat.le_refl _) (I (k : Int))).setCell (p := ⟨w.heap.size, 1, none⟩) (Nat.le_refl _) (I x)).setCell (p := ⟨w.heap.size, 2, none⟩) (Nat.le_refl _) (I (1 + y))).setCell (p := ⟨w.heap.size, 3, none⟩) (Nat.le_refl _) (I 0)).setCell (p := ⟨w.heap.size, 4, none⟩) (Nat.le_refl _) (I 0))
    refine bodyPost_ret (ret_act1 Tryd.results75 (p := 4) (g := w.heap.size) rfl (Blk.set5 (Hb4.out.far (p := ⟨g5, 0, none⟩) (Nat.ne_of_lt hw5) (I (k : Int))) (I (k : Int)) (I x) (I (1 + y)) (I 0) (I 0))) rfl (actRet_mk (k := k) hk1 hk2 hx hy (by decide) (by decide) (cur_low Hc4.out (hB.mono (by omega))) (grown_below HG4.out hB))
  · have p0w3 : w3.cell? ⟨g5, 0, none⟩ = some (I 0) := H5.out.cell 0
    have p1w3 : w3.cell? ⟨g5, 1, none⟩ = some (I x) := H5.out.cell 1
    have p2w3 : w3.cell? ⟨g5, 2, none⟩ = some (I (1 + y)) := H5.out.cell 2
    have p3w3 : w3.cell? ⟨g5, 3, none⟩ = some (I 0) := H5.out.cell 3
    have p4w3 : w3.cell? ⟨g5, 4, none⟩ = some (I 0) := H5.out.cell 4
    have q0w3 : w3.frozen? ⟨g5, 0, none⟩ = false := H5.out.frozen 0
    have q1w3 : w3.frozen? ⟨g5, 1, none⟩ = false := H5.out.frozen 1
    have q2w3 : w3.frozen? ⟨g5, 2, none⟩ = false := H5.out.frozen 2
    have q3w3 : w3.frozen? ⟨g5, 3, none⟩ = false := H5.out.frozen 3
    have q4w3 : w3.frozen? ⟨g5, 4, none⟩ = false := H5.out.frozen 4
    have r0w3 : w3.cell? ⟨w.heap.size, 0, none⟩ = some (I 0) := Hb3.out.cell 0
    have r1w3 : w3.cell? ⟨w.heap.size, 1, none⟩ = some (I 0) := Hb3.out.cell 1
    have r2w3 : w3.cell? ⟨w.heap.size, 2, none⟩ = some (I 0) := Hb3.out.cell 2
    have r3w3 : w3.cell? ⟨w.heap.size, 3, none⟩ = some (I 0) := Hb3.out.cell 3
    have r4w3 : w3.cell? ⟨w.heap.size, 4, none⟩ = some (I 0) := Hb3.out.cell 4
    have s0w3 : w3.frozen? ⟨w.heap.size, 0, none⟩ = false := Hb3.out.frozen 0
    have s1w3 : w3.frozen? ⟨w.heap.size, 1, none⟩ = false := Hb3.out.frozen 1
    have s2w3 : w3.frozen? ⟨w.heap.size, 2, none⟩ = false := Hb3.out.frozen 2
    have s3w3 : w3.frozen? ⟨w.heap.size, 3, none⟩ = false := Hb3.out.frozen 3
    have s4w3 : w3.frozen? ⟨w.heap.size, 4, none⟩ = false := Hb3.out.frozen 4
    go_wp2
    have hB : Below w.heap.size w3 _ := (((((((Below.refl _ _).setCell (p := ⟨g5, 0, none⟩) (Nat.le_of_lt hw5) (I 7)).setCell (p := ⟨w.heap.size, 0, none⟩) (Nat.le_refl _) (I 7)).setCell (p := ⟨w.heap.size, 1, none⟩) (Nat.le_refl _) (I x)).setCell (p := ⟨w.heap.size, 2, none⟩) (Nat.le_refl _) (I (1 + y))).setCell (p := ⟨w.heap.size, 3, none⟩) (Nat.le_refl _) (I 0)).setCell (p := ⟨w.heap.size, 4, none⟩) (Nat.le_refl _) (I 0))
    refine bodyPost_ret (ret_act1 Tryd.results75 (p := 4) (g := w.heap.size) rfl (Blk.set5 (Hb3.out.far (p := ⟨g5, 0, none⟩) (Nat.ne_of_lt hw5) (I 7)) (I 7) (I x) (I (1 + y)) (I 0) (I 0))) rfl (actRet_mk (k := 7) (by decide) (by decide) hx hy (by decide) (by decide) (cur_low Hc3.out (hB.mono (by omega))) (grown_below HG3.out hB))
  · have p0w3 : w3.cell? ⟨g5, 0, none⟩ = some (I 0) := H5.out.cell 0
    have p1w3 : w3.cell? ⟨g5, 1, none⟩ = some (I x) := H5.out.cell 1
    have p2w3 : w3.cell? ⟨g5, 2, none⟩ = some (I (1 + y)) := H5.out.cell 2
    have p3w3 : w3.cell? ⟨g5, 3, none⟩ = some (I 0) := H5.out.cell 3
    have p4w3 : w3.cell? ⟨g5, 4, none⟩ = some (I 0) := H5.out.cell 4
    have q0w3 : w3.frozen? ⟨g5, 0, none⟩ = false := H5.out.frozen 0
    have q1w3 : w3.frozen? ⟨g5, 1, none⟩ = false := H5.out.frozen 1
    have q2w3 : w3.frozen? ⟨g5, 2, none⟩ = false := H5.out.frozen 2
    have q3w3 : w3.frozen? ⟨g5, 3, none⟩ = false := H5.out.frozen 3
    have q4w3 : w3.frozen? ⟨g5, 4, none⟩ = false := H5.out.frozen 4
    have r0w3 : w3.cell? ⟨w.heap.size, 0, none⟩ = some (I 0) := Hb3.out.cell 0
    have r1w3 : w3.cell? ⟨w.heap.size, 1, none⟩ = some (I 0) := Hb3.out.cell 1
    have r2w3 : w3.cell? ⟨w.heap.size, 2, none⟩ = some (I 0) := Hb3.out.cell 2
    have r3w3 : w3.cell? ⟨w.heap.size, 3, none⟩ = some (I 0) := Hb3.out.cell 3
    have r4w3 : w3.cell? ⟨w.heap.size, 4, none⟩ = some (I 0) := Hb3.out.cell 4
    have s0w3 : w3.frozen? ⟨w.heap.size, 0, none⟩ = false := Hb3.out.frozen 0
    have s1w3 : w3.frozen? ⟨w.heap.size, 1, none⟩ = false := Hb3.out.frozen 1
    have s2w3 : w3.frozen? ⟨w.heap.size, 2, none⟩ = false := Hb3.out.frozen 2
    have s3w3 : w3.frozen? ⟨w.heap.size, 3, none⟩ = false := Hb3.out.frozen 3
    have s4w3 : w3.frozen? ⟨w.heap.size, 4, none⟩ = false := Hb3.out.frozen 4
    go_wp2_with fail
    have hB3 : Below w.heap.size w3 _ := (((Below.refl _ _).setCell (p := ⟨g5, 0, none⟩) (Nat.le_of_lt hw5) (I 8)).alloc (by simp [World.setCell]; omega) (.cells #[I 1, I 30, I 60, I 120] 3))
    refine (pick_lit [1, 30, 60, 120] 4 w3.heap.size 3 #[I 1, I 30, I 60, I 120] rfl rfl (by decide) (by decide) g A n c 4 zs _ (cur_low Hc3.out (hB3.mono (by omega))) (Pl.blk_new' (by simp [World.setCell])) (by omega)).mono ?_
    rintro e w4 ⟨q, hq, rfl, hc4, hg4⟩
    have h54 : Blk w4 g5 44 #[I 8, I x, I (1 + y), I 0, I 0] := blk_grown ((H5.out.set_ 0 (I 8)).alloc (.cells #[I 1, I 30, I 60, I 120] 3)) hg4 (by omega)
    have Hb4 := Lib.hid (blk_grown ((Hb3.out.far (p := ⟨g5, 0, none⟩) (Nat.ne_of_lt hw5) (I 8)).alloc (.cells #[I 1, I 30, I 60, I 120] 3)) hg4 (by omega))
    have H54 := Lib.hid h54
    have HG4 := Lib.hid (grown_tr (grown_below HG3.out hB3) hg4)
    have Hc4 := Lib.hid hc4
    have hs4 := h54.lt
    have hql := inR_of [1, 30, 60, 120] (by decide) q
    obtain ⟨u, hu⟩ : ∃ u, gI [1, 30, 60, 120] q = u := ⟨_, rfl⟩
    rw [hu] at hql ⊢
    clear hu hq hc4 hg4 h54 hB3 p0w3 p1w3 p2w3 p3w3 p4w3 q0w3 q1w3 q2w3 q3w3 q4w3 r0w3 r1w3 r2w3 r3w3 r4w3 s0w3 s1w3 s2w3 s3w3 s4w3
    have p0w4 : w4.cell? ⟨g5, 0, none⟩ = some (I 8) := H54.out.cell 0
    have p1w4 : w4.cell? ⟨g5, 1, none⟩ = some (I x) := H54.out.cell 1
    have p2w4 : w4.cell? ⟨g5, 2, none⟩ = some (I (1 + y)) := H54.out.cell 2
    have p3w4 : w4.cell? ⟨g5, 3, none⟩ = some (I 0) := H54.out.cell 3
    have p4w4 : w4.cell? ⟨g5, 4, none⟩ = some (I 0) := H54.out.cell 4
    have q0w4 : w4.frozen? ⟨g5, 0, none⟩ = false := H54.out.frozen 0
    have q1w4 : w4.frozen? ⟨g5, 1, none⟩ = false := H54.out.frozen 1
    have q2w4 : w4.frozen? ⟨g5, 2, none⟩ = false := H54.out.frozen 2
    have q3w4 : w4.frozen? ⟨g5, 3, none⟩ = false := H54.out.frozen 3
    have q4w4 : w4.frozen? ⟨g5, 4, none⟩ = false := H54.out.frozen 4
    have r0w4 : w4.cell? ⟨w.heap.size, 0, none⟩ = some (I 0) := Hb4.out.cell 0
    have r1w4 : w4.cell? ⟨w.heap.size, 1, none⟩ = some (I 0) := Hb4.out.cell 1
    have r2w4 : w4.cell? ⟨w.heap.size, 2, none⟩ = some (I 0) := Hb4.out.cell 2
    have r3w4 : w4.cell? ⟨w.heap.size, 3, none⟩ = some (I 0) := Hb4.out.cell 3
    have r4w4 : w4.cell? ⟨w.heap.size, 4, none⟩ = some (I 0) := Hb4.out.cell 4
    have s0w4 : w4.frozen? ⟨w.heap.size, 0, none⟩ = false := Hb4.out.frozen 0
    have s1w4 : w4.frozen? ⟨w.heap.size, 1, none⟩ = false := Hb4.out.frozen 1
    have s2w4 : w4.frozen? ⟨w.heap.size, 2, none⟩ = false := Hb4.out.frozen 2
    have s3w4 : w4.frozen? ⟨w.heap.size, 3, none⟩ = false := Hb4.out.frozen 3
    have s4w4 : w4.frozen? ⟨w.heap.size, 4, none⟩ = false := Hb4.out.frozen 4
    go_wp2
    have hB : Below w.heap.size w4 _ := (((((((Below.refl _ _).setCell (p := ⟨g5, 2, none⟩) (Nat.le_of_lt hw5) (I u)).setCell (p := ⟨w.heap.size, 0, none⟩) (Nat.le_refl _) (I 8)).setCell (p := ⟨w.heap.size, 1, none⟩) (Nat.le_refl _) (I x)).setCell (p := ⟨w.heap.size, 2, none⟩) (Nat.le_refl _) (I u)).setCell (p := ⟨w.heap.size, 3, none⟩) (Nat.le_refl _) (I 0)).setCell (p := ⟨w.heap.size, 4, none⟩) (Nat.le_refl _) (I 0))
    refine bodyPost_ret (ret_act1 Tryd.results75 (p := 4) (g := w.heap.size) rfl (Blk.set5 (Hb4.out.far (p := ⟨g5, 2, none⟩) (Nat.ne_of_lt hw5) (I u)) (I 8) (I x) (I u) (I 0) (I 0))) rfl (actRet_mk (k := 8) (by decide) (by decide) hx hql (by decide) (by decide) (cur_low Hc4.out (hB.mono (by omega))) (grown_below HG4.out hB))
  · have p0w3 : w3.cell? ⟨g5, 0, none⟩ = some (I 0) := H5.out.cell 0
    have p1w3 : w3.cell? ⟨g5, 1, none⟩ = some (I x) := H5.out.cell 1
    have p2w3 : w3.cell? ⟨g5, 2, none⟩ = some (I (1 + y)) := H5.out.cell 2
    have p3w3 : w3.cell? ⟨g5, 3, none⟩ = some (I 0) := H5.out.cell 3
    have p4w3 : w3.cell? ⟨g5, 4, none⟩ = some (I 0) := H5.out.cell 4
    have q0w3 : w3.frozen? ⟨g5, 0, none⟩ = false := H5.out.frozen 0
    have q1w3 : w3.frozen? ⟨g5, 1, none⟩ = false := H5.out.frozen 1
    have q2w3 : w3.frozen? ⟨g5, 2, none⟩ = false := H5.out.frozen 2
    have q3w3 : w3.frozen? ⟨g5, 3, none⟩ = false := H5.out.frozen 3
    have q4w3 : w3.frozen? ⟨g5, 4, none⟩ = false := H5.out.frozen 4
    have r0w3 : w3.cell? ⟨w.heap.size, 0, none⟩ = some (I 0) := Hb3.out.cell 0
    have r1w3 : w3.cell? ⟨w.heap.size, 1, none⟩ = some (I 0) := Hb3.out.cell 1
    have r2w3 : w3.cell? ⟨w.heap.size, 2, none⟩ = some (I 0) := Hb3.out.cell 2
    have r3w3 : w3.cell? ⟨w.heap.size, 3, none⟩ = some (I 0) := Hb3.out.cell 3
    have r4w3 : w3.cell? ⟨w.heap.size, 4, none⟩ = some (I 0) := Hb3.out.cell 4
    have s0w3 : w3.frozen? ⟨w.heap.size, 0, none⟩ = false := Hb3.out.frozen 0
    have s1w3 : w3.frozen? ⟨w.heap.size, 1, none⟩ = false := Hb3.out.frozen 1
    have s2w3 : w3.frozen? ⟨w.heap.size, 2, none⟩ = false := Hb3.out.frozen 2
    have s3w3 : w3.frozen? ⟨w.heap.size, 3, none⟩ = false := Hb3.out.frozen 3
    have s4w3 : w3.frozen? ⟨w.heap.size, 4, none⟩ = false := Hb3.out.frozen 4
    go_wp2
    have hB : Below w.heap.size w3 _ := (((((((Below.refl _ _).setCell (p := ⟨g5, 0, none⟩) (Nat.le_of_lt hw5) (I 9)).setCell (p := ⟨w.heap.size, 0, none⟩) (Nat.le_refl _) (I 9)).setCell (p := ⟨w.heap.size, 1, none⟩) (Nat.le_refl _) (I x)).setCell (p := ⟨w.heap.size, 2, none⟩) (Nat.le_refl _) (I (1 + y))).setCell (p := ⟨w.heap.size, 3, none⟩) (Nat.le_refl _) (I 0)).setCell (p := ⟨w.heap.size, 4, none⟩) (Nat.le_refl _) (I 0))
    refine bodyPost_ret (ret_act1 Tryd.results75 (p := 4) (g := w.heap.size) rfl (Blk.set5 (Hb3.out.far (p := ⟨g5, 0, none⟩) (Nat.ne_of_lt hw5) (I 9)) (I 9) (I x) (I (1 + y)) (I 0) (I 0))) rfl (actRet_mk (k := 9) (by decide) (by decide) hx hy (by decide) (by decide) (cur_low Hc3.out (hB.mono (by omega))) (grown_below HG3.out hB))
  · have p0w3 : w3.cell? ⟨g5, 0, none⟩ = some (I 0) := H5.out.cell 0
    have p1w3 : w3.cell? ⟨g5, 1, none⟩ = some (I x) := H5.out.cell 1
    have p2w3 : w3.cell? ⟨g5, 2, none⟩ = some (I (1 + y)) := H5.out.cell 2
    have p3w3 : w3.cell? ⟨g5, 3, none⟩ = some (I 0) := H5.out.cell 3
    have p4w3 : w3.cell? ⟨g5, 4, none⟩ = some (I 0) := H5.out.cell 4
    have q0w3 : w3.frozen? ⟨g5, 0, none⟩ = false := H5.out.frozen 0
    have q1w3 : w3.frozen? ⟨g5, 1, none⟩ = false := H5.out.frozen 1
    have q2w3 : w3.frozen? ⟨g5, 2, none⟩ = false := H5.out.frozen 2
    have q3w3 : w3.frozen? ⟨g5, 3, none⟩ = false := H5.out.frozen 3
    have q4w3 : w3.frozen? ⟨g5, 4, none⟩ = false := H5.out.frozen 4
    have r0w3 : w3.cell? ⟨w.heap.size, 0, none⟩ = some (I 0) := Hb3.out.cell 0
    have r1w3 : w3.cell? ⟨w.heap.size, 1, none⟩ = some (I 0) := Hb3.out.cell 1
    have r2w3 : w3.cell? ⟨w.heap.size, 2, none⟩ = some (I 0) := Hb3.out.cell 2
    have r3w3 : w3.cell? ⟨w.heap.size, 3, none⟩ = some (I 0) := Hb3.out.cell 3
    have r4w3 : w3.cell? ⟨w.heap.size, 4, none⟩ = some (I 0) := Hb3.out.cell 4
    have s0w3 : w3.frozen? ⟨w.heap.size, 0, none⟩ = false := Hb3.out.frozen 0
    have s1w3 : w3.frozen? ⟨w.heap.size, 1, none⟩ = false := Hb3.out.frozen 1
    have s2w3 : w3.frozen? ⟨w.heap.size, 2, none⟩ = false := Hb3.out.frozen 2
    have s3w3 : w3.frozen? ⟨w.heap.size, 3, none⟩ = false := Hb3.out.frozen 3
    have s4w3 : w3.frozen? ⟨w.heap.size, 4, none⟩ = false := Hb3.out.frozen 4
    go_wp2_with fail
    have hB3 : Below w.heap.size w3 _ := (((Below.refl _ _).setCell (p := ⟨g5, 0, none⟩) (Nat.le_of_lt hw5) (I 10)).alloc (by simp [World.setCell]; omega) (.cells #[I 1, I 2, I 3, I 10, I 30] 3))
    refine (pick_lit [1, 2, 3, 10, 30] 5 w3.heap.size 3 #[I 1, I 2, I 3, I 10, I 30] rfl rfl (by decide) (by decide) g A n c 5 zs _ (cur_low Hc3.out (hB3.mono (by omega))) (Pl.blk_new' (by simp [World.setCell])) (by omega)).mono ?_
    rintro e w4 ⟨q, hq, rfl, hc4, hg4⟩
    have h54 : Blk w4 g5 44 #[I 10, I x, I (1 + y), I 0, I 0] := blk_grown ((H5.out.set_ 0 (I 10)).alloc (.cells #[I 1, I 2, I 3, I 10, I 30] 3)) hg4 (by omega)
    have Hb4 := Lib.hid (blk_grown ((Hb3.out.far (p := ⟨g5, 0, none⟩) (Nat.ne_of_lt hw5) (I 10)).alloc (.cells #[I 1, I 2, I 3, I 10, I 30] 3)) hg4 (by omega))
    have H54 := Lib.hid h54
    have HG4 := Lib.hid (grown_tr (grown_below HG3.out hB3) hg4)
    have Hc4 := Lib.hid hc4
    have hs4 := h54.lt
    have hql := inR_of [1, 2, 3, 10, 30] (by decide) q
    obtain ⟨u, hu⟩ : ∃ u, gI [1, 2, 3, 10, 30] q = u := ⟨_, rfl⟩
    rw [hu] at hql ⊢
    clear hu hq hc4 hg4 h54 hB3 p0w3 p1w3 p2w3 p3w3 p4w3 q0w3 q1w3 q2w3 q3w3 q4w3 r0w3 r1w3 r2w3 r3w3 r4w3 s0w3 s1w3 s2w3 s3w3 s4w3
    have p0w4 : w4.cell? ⟨g5, 0, none⟩ = some (I 10) := H54.out.cell 0
    have p1w4 : w4.cell? ⟨g5, 1, none⟩ = some (I x) := H54.out.cell 1
    have p2w4 : w4.cell? ⟨g5, 2, none⟩ = some (I (1 + y)) := H54.out.cell 2
    have p3w4 : w4.cell? ⟨g5, 3, none⟩ = some (I 0) := H54.out.cell 3
    have p4w4 : w4.cell? ⟨g5, 4, none⟩ = some (I 0) := H54.out.cell 4
    have q0w4 : w4.frozen? ⟨g5, 0, none⟩ = false := H54.out.frozen 0
    have q1w4 : w4.frozen? ⟨g5, 1, none⟩ = false := H54.out.frozen 1
    have q2w4 : w4.frozen? ⟨g5, 2, none⟩ = false := H54.out.frozen 2
    have q3w4 : w4.frozen? ⟨g5, 3, none⟩ = false := H54.out.frozen 3
    have q4w4 : w4.frozen? ⟨g5, 4, none⟩ = false := H54.out.frozen 4
    have r0w4 : w4.cell? ⟨w.heap.size, 0, none⟩ = some (I 0) := Hb4.out.cell 0
    have r1w4 : w4.cell? ⟨w.heap.size, 1, none⟩ = some (I 0) := Hb4.out.cell 1
    have r2w4 : w4.cell? ⟨w.heap.size, 2, none⟩ = some (I 0) := Hb4.out.cell 2
    have r3w4 : w4.cell? ⟨w.heap.size, 3, none⟩ = some (I 0) := Hb4.out.cell 3
    have r4w4 : w4.cell? ⟨w.heap.size, 4, none⟩ = some (I 0) := Hb4.out.cell 4
    have s0w4 : w4.frozen? ⟨w.heap.size, 0, none⟩ = false := Hb4.out.frozen 0
    have s1w4 : w4.frozen? ⟨w.heap.size, 1, none⟩ = false := Hb4.out.frozen 1
    have s2w4 : w4.frozen? ⟨w.heap.size, 2, none⟩ = false := Hb4.out.frozen 2
    have s3w4 : w4.frozen? ⟨w.heap.size, 3, none⟩ = false := Hb4.out.frozen 3
    have s4w4 : w4.frozen? ⟨w.heap.size, 4, none⟩ = false := Hb4.out.frozen 4
    go_wp2
    have hB : Below w.heap.size w4 _ := (((((((Below.refl _ _).setCell (p := ⟨g5, 2, none⟩) (Nat.le_of_lt hw5) (I u)).setCell (p := ⟨w.heap.size, 0, none⟩) (Nat.le_refl _) (I 10)).setCell (p := ⟨w.heap.size, 1, none⟩) (Nat.le_refl _) (I x)).setCell (p := ⟨w.heap.size, 2, none⟩) (Nat.le_refl _) (I u)).setCell (p := ⟨w.heap.size, 3, none⟩) (Nat.le_refl _) (I 0)).setCell (p := ⟨w.heap.size, 4, none⟩) (Nat.le_refl _) (I 0))
    refine bodyPost_ret (ret_act1 Tryd.results75 (p := 4) (g := w.heap.size) rfl (Blk.set5 (Hb4.out.far (p := ⟨g5, 2, none⟩) (Nat.ne_of_lt hw5) (I u)) (I 10) (I x) (I u) (I 0) (I 0))) rfl (actRet_mk (k := 10) (by decide) (by decide) hx hql (by decide) (by decide) (cur_low Hc4.out (hB.mono (by omega))) (grown_below HG4.out hB))
  · have p0w3 : w3.cell? ⟨g5, 0, none⟩ = some (I 0) := H5.out.cell 0
    have p1w3 : w3.cell? ⟨g5, 1, none⟩ = some (I x) := H5.out.cell 1
    have p2w3 : w3.cell? ⟨g5, 2, none⟩ = some (I (1 + y)) := H5.out.cell 2
    have p3w3 : w3.cell? ⟨g5, 3, none⟩ = some (I 0) := H5.out.cell 3
    have p4w3 : w3.cell? ⟨g5, 4, none⟩ = some (I 0) := H5.out.cell 4
    have q0w3 : w3.frozen? ⟨g5, 0, none⟩ = false := H5.out.frozen 0
    have q1w3 : w3.frozen? ⟨g5, 1, none⟩ = false := H5.out.frozen 1
    have q2w3 : w3.frozen? ⟨g5, 2, none⟩ = false := H5.out.frozen 2
    have q3w3 : w3.frozen? ⟨g5, 3, none⟩ = false := H5.out.frozen 3
    have q4w3 : w3.frozen? ⟨g5, 4, none⟩ = false := H5.out.frozen 4
    have r0w3 : w3.cell? ⟨w.heap.size, 0, none⟩ = some (I 0) := Hb3.out.cell 0
    have r1w3 : w3.cell? ⟨w.heap.size, 1, none⟩ = some (I 0) := Hb3.out.cell 1
    have r2w3 : w3.cell? ⟨w.heap.size, 2, none⟩ = some (I 0) := Hb3.out.cell 2
    have r3w3 : w3.cell? ⟨w.heap.size, 3, none⟩ = some (I 0) := Hb3.out.cell 3
    have r4w3 : w3.cell? ⟨w.heap.size, 4, none⟩ = some (I 0) := Hb3.out.cell 4
    have s0w3 : w3.frozen? ⟨w.heap.size, 0, none⟩ = false := Hb3.out.frozen 0
    have s1w3 : w3.frozen? ⟨w.heap.size, 1, none⟩ = false := Hb3.out.frozen 1
    have s2w3 : w3.frozen? ⟨w.heap.size, 2, none⟩ = false := Hb3.out.frozen 2
    have s3w3 : w3.frozen? ⟨w.heap.size, 3, none⟩ = false := Hb3.out.frozen 3
    have s4w3 : w3.frozen? ⟨w.heap.size, 4, none⟩ = false := Hb3.out.frozen 4
    go_wp2_with fail
    have hB3 : Below w.heap.size w3 _ := (((Below.refl _ _).setCell (p := ⟨g5, 0, none⟩) (Nat.le_of_lt hw5) (I 10)).alloc (by simp [World.setCell]; omega) (.cells #[I 1, I 2, I 3, I 10, I 30] 3))
    refine (pick_lit [1, 2, 3, 10, 30] 5 w3.heap.size 3 #[I 1, I 2, I 3, I 10, I 30] rfl rfl (by decide) (by decide) g A n c 5 zs _ (cur_low Hc3.out (hB3.mono (by omega))) (Pl.blk_new' (by simp [World.setCell])) (by omega)).mono ?_
    rintro e w4 ⟨q, hq, rfl, hc4, hg4⟩
    have h54 : Blk w4 g5 44 #[I 10, I x, I (1 + y), I 0, I 0] := blk_grown ((H5.out.set_ 0 (I 10)).alloc (.cells #[I 1, I 2, I 3, I 10, I 30] 3)) hg4 (by omega)
    have Hb4 := Lib.hid (blk_grown ((Hb3.out.far (p := ⟨g5, 0, none⟩) (Nat.ne_of_lt hw5) (I 10)).alloc (.cells #[I 1, I 2, I 3, I 10, I 30] 3)) hg4 (by omega))
    have H54 := Lib.hid h54
    have HG4 := Lib.hid (grown_tr (grown_below HG3.out hB3) hg4)
    have Hc4 := Lib.hid hc4
    have hs4 := h54.lt
    have hql := inR_of [1, 2, 3, 10, 30] (by decide) q
    obtain ⟨u, hu⟩ : ∃ u, gI [1, 2, 3, 10, 30] q = u := ⟨_, rfl⟩
    rw [hu] at hql ⊢
    clear hu hq hc4 hg4 h54 hB3 p0w3 p1w3 p2w3 p3w3 p4w3 q0w3 q1w3 q2w3 q3w3 q4w3 r0w3 r1w3 r2w3 r3w3 r4w3 s0w3 s1w3 s2w3 s3w3 s4w3
    have p0w4 : w4.cell? ⟨g5, 0, none⟩ = some (I 10) := H54.out.cell 0
    have p1w4 : w4.cell? ⟨g5, 1, none⟩ = some (I x) := H54.out.cell 1
    have p2w4 : w4.cell? ⟨g5, 2, none⟩ = some (I (1 + y)) := H54.out.cell 2
    have p3w4 : w4.cell? ⟨g5, 3, none⟩ = some (I 0) := H54.out.cell 3
    have p4w4 : w4.cell? ⟨g5, 4, none⟩ = some (I 0) := H54.out.cell 4
    have q0w4 : w4.frozen? ⟨g5, 0, none⟩ = false := H54.out.frozen 0
    have q1w4 : w4.frozen? ⟨g5, 1, none⟩ = false := H54.out.frozen 1
    have q2w4 : w4.frozen? ⟨g5, 2, none⟩ = false := H54.out.frozen 2
    have q3w4 : w4.frozen? ⟨g5, 3, none⟩ = false := H54.out.frozen 3
    have q4w4 : w4.frozen? ⟨g5, 4, none⟩ = false := H54.out.frozen 4
    have r0w4 : w4.cell? ⟨w.heap.size, 0, none⟩ = some (I 0) := Hb4.out.cell 0
    have r1w4 : w4.cell? ⟨w.heap.size, 1, none⟩ = some (I 0) := Hb4.out.cell 1
    have r2w4 : w4.cell? ⟨w.heap.size, 2, none⟩ = some (I 0) := Hb4.out.cell 2
    have r3w4 : w4.cell? ⟨w.heap.size, 3, none⟩ = some (I 0) := Hb4.out.cell 3
    have r4w4 : w4.cell? ⟨w.heap.size, 4, none⟩ = some (I 0) := Hb4.out.cell 4
    have s0w4 : w4.frozen? ⟨w.heap.size, 0, none⟩ = false := Hb4.out.frozen 0
    have s1w4 : w4.frozen? ⟨w.heap.size, 1, none⟩ = false := Hb4.out.frozen 1
    have s2w4 : w4.frozen? ⟨w.heap.size, 2, none⟩ = false := Hb4.out.frozen 2
    have s3w4 : w4.frozen? ⟨w.heap.size, 3, none⟩ = false := Hb4.out.frozen 3
    have s4w4 : w4.frozen? ⟨w.heap.size, 4, none⟩ = false := Hb4.out.frozen 4
    go_wp2
    have hB : Below w.heap.size w4 _ := (((((((Below.refl _ _).setCell (p := ⟨g5, 2, none⟩) (Nat.le_of_lt hw5) (I u)).setCell (p := ⟨w.heap.size, 0, none⟩) (Nat.le_refl _) (I 10)).setCell (p := ⟨w.heap.size, 1, none⟩) (Nat.le_refl _) (I x)).setCell (p := ⟨w.heap.size, 2, none⟩) (Nat.le_refl _) (I u)).setCell (p := ⟨w.heap.size, 3, none⟩) (Nat.le_refl _) (I 0)).setCell (p := ⟨w.heap.size, 4, none⟩) (Nat.le_refl _) (I 0))
    refine bodyPost_ret (ret_act1 Tryd.results75 (p := 4) (g := w.heap.size) rfl (Blk.set5 (Hb4.out.far (p := ⟨g5, 2, none⟩) (Nat.ne_of_lt hw5) (I u)) (I 10) (I x) (I u) (I 0) (I 0))) rfl (actRet_mk (k := 10) (by decide) (by decide) hx hql (by decide) (by decide) (cur_low Hc4.out (hB.mono (by omega))) (grown_below HG4.out hB))
end Go.Proofs.YtebiefhfhjgmaaaDoor.Dr
