/- slices.DeleteFunc at isMesh and impl.WithoutMesh: the acts that mesh nothing. -/
import Derived.Test.YtebiefhfhjgmaaaWithout
import Derived.Lib.SliceRun
namespace Go.Proofs.Ytebiefhfhjgmaaa.Wom
open Go.RowKit Mm Codes

theorem take_set (cur : Array Value) (m : Nat) (v : Value) (xs : List Value) (h : cur.toList.take m = xs) (hm : m < cur.size) : (cur.setIfInBounds m v).toList.take (m + 1) = xs ++ [v] := by
  subst h
  apply List.ext_getElem?
  intro j
  have hl : cur.toList.length = cur.size := rfl
  by_cases hj : j < m
  · rw [List.getElem?_take, if_pos (by omega), List.getElem?_append_left (by simp; omega), List.getElem?_take, if_pos hj, Array.getElem?_toList, Array.getElem?_setIfInBounds, if_neg (by omega), Array.getElem?_toList]
  · by_cases hj2 : j = m
    · subst hj2
      rw [List.getElem?_take, if_pos (by omega), List.getElem?_append_right (by simp; omega), Array.getElem?_toList, Array.getElem?_setIfInBounds, if_pos rfl, if_pos hm]
      have e : j - (List.take j cur.toList).length = 0 := by rw [List.length_take, hl]; omega
      rw [e]; rfl
    · rw [List.getElem?_eq_none (by rw [List.length_take]; omega), List.getElem?_eq_none (by rw [List.length_append, List.length_take, hl]; simp; omega)]

/-- The cells cur with Z laid from o on. -/
def rowOf (cur : Array Value) (o : Nat) (Z : List Value) : Array Value := (cur.toList.take o ++ Z ++ cur.toList.drop (o + Z.length)).toArray
theorem rowOf_size (cur : Array Value) (o : Nat) (Z : List Value) (h : o + Z.length ≤ cur.size) : (rowOf cur o Z).size = cur.size := by
  have hl : cur.toList.length = cur.size := rfl
  unfold rowOf
  rw [List.size_toArray, List.length_append, List.length_append, List.length_take, List.length_drop, hl]
  omega
theorem rowOf_take (cur : Array Value) (o : Nat) (Z : List Value) (h : o + Z.length ≤ cur.size) : (rowOf cur o Z).toList.take o = cur.toList.take o := by
  have hl : cur.toList.length = cur.size := rfl
  have h2 : (cur.toList.take o).length = o := by rw [List.length_take]; omega
  unfold rowOf
  rw [List.toList_toArray, List.append_assoc, List.take_append_of_le_length (by omega), List.take_of_length_le (by omega)]
theorem run_clear_blk {P : Program} (w : World) (t e : TypeId) (z : Value) (ht : P.underlying t = some (.slice e)) (hv : ∀ w, (zeroValue e).run P w = .ok z w) (h1 : ∀ v ∈ z.cells, v.oneCell' = true) (g o m c : Nat) (cur : Array Value) (hb : Blk w g e cur) (hm : 0 < m)
    (hfit : o + m * z.cells.size ≤ cur.size) :
    ∃ Z : List Value, Z.length = m * z.cells.size ∧ ∀ ty, (Builtin.clear_ #[t] ty #[.slice (some ⟨g, o, none⟩) m c]).run P w = .ok (.tuple #[]) (w.setRow g (rowOf cur o Z)) := by
  have hlen : (Builtin.zeroCells z.cells m).toList.length = m * z.cells.size := by simp [Builtin.zeroCells]
  refine ⟨(Builtin.zeroCells z.cells m).toList, hlen, fun ty => ?_⟩
  have hst := run_storeCells_at P g o e (Builtin.zeroCells z.cells m).toList 0 cur w hb (by rw [hlen]; exact hfit) (by
    intro v hv
    rw [Array.mem_toList_iff] at hv
    simp only [Builtin.zeroCells, Array.mem_map, Array.mem_range] at hv
    obtain ⟨j, hj, rfl⟩ := hv
    have hp : 0 < z.cells.size := by
      rcases Nat.eq_zero_or_pos z.cells.size with h0 | h0
      · rw [h0] at hj; omega
      · exact h0
    have hjm : j % z.cells.size < z.cells.size := Nat.mod_lt _ hp
    rw [getElem!_pos z.cells (j % z.cells.size) hjm]
    exact h1 _ (Array.getElem_mem hjm))
  simp only [Nat.add_zero] at hst
  obtain ⟨q, rfl⟩ : ∃ q, m = q + 1 := ⟨m - 1, by omega⟩
  simp [Builtin.clear_, run_underlying ht, hv, hst, rowOf]
theorem blk_setRow {w : World} {g : Nat} {t : TypeId} {cur cs : Array Value} (h : Blk w g t cur) : Blk (w.setRow g cs) g t cs := by
  unfold Blk at h ⊢
  simp [World.setRow, Array.getElem?_modify, h]
theorem grown_setRow {a w : World} {g : Nat} (h : a.grownBy w (some g)) (cs : Array Value) : a.grownBy (w.setRow g cs) (some g) :=
  ⟨h.os, h.tape, h.output, by simpa [World.setRow] using h.size, fun i hi hne => by
    rw [← h.block i hi hne]
    simp only [World.setRow, Array.getElem?_modify]
    rw [if_neg (fun e => hne (by rw [e]))]⟩
theorem zero_act : ∀ w, (zeroValue 45).run Try.prog w = .ok (.agg #[I 0, I 0, I 0, I 0, I 0]) w := fun _ => by kernel_rfl

/-- What block g holds when the first j acts have been looked at. -/
def St (w : World) (g n cap : Nat) (zs : List Int) (j : Nat) (cur : Array Value) : Prop :=
  Blk w g 45 cur ∧ cur.size = cap * 5 ∧ cur.toList.take (cntA zs j * 5) = (keepA zs j).map I ∧ ∀ p, j * 5 ≤ p → p < n * 5 → cur[p]? = some (I (gI zs p))

def DelRet (base g n cap : Nat) (zs : List Int) (w : World) (e : Ending) (w' : World) : Prop :=
  e = .returned (.slice (some ⟨g, 0, none⟩) (cntA zs n) cap) ∧ w'.ownsRow base 45 5 (.slice (some ⟨g, 0, none⟩) (cntA zs n) cap) (cntA zs n) ((keepA zs n).map I) ∧ w.grownBy w' (some g)
theorem grown_trans {a b c : World} {row : Option Nat} (h : a.grownBy b row) (k : b.grownBy c row) : a.grownBy c row :=
  ⟨k.os.trans h.os, k.tape.trans h.tape, k.output.trans h.output, Nat.le_trans h.size k.size, fun i hi hne => (k.block i (Nat.lt_of_lt_of_le hi h.size) hne).trans (h.block i hi hne)⟩

set_option maxHeartbeats 1000000 in
theorem delete_any (g n cap base : Nat) (zs : List Int) (w : World) (h : w.ownsRow base 45 5 (.slice (some ⟨g, 0, none⟩) n cap) n (zs.map I)) (hn : n ≤ 1048576) :
    Calls Try.prog 37 #[.slice (some ⟨g, 0, none⟩) n cap, .func (.func 36) #[] #[]] w (DelRet base g n cap zs w) := by
  have hr := IRow.of_own h (Nat.le_refl _)
  have hlen : zs.length = n * 5 := hr.1
  by_cases hno : ∀ j, j < n → isM (gI zs (j * 5)) = false
  · obtain ⟨e1, e2⟩ := keep_first zs n hno (by omega)
    have E : Hid (keepA zs n = zs) := by show _ = _; rw [e2]; exact List.take_of_length_le (by omega)
    have E1 := Lib.hid e1
    have H := Lib.hid h
    have Hno := Lib.hid hno
    clear e1 e2 hno h hlen
    go_enter Try.func37, Try.ntmps37
    go_wp2_with fail
    refine (index_none g 0 n cap zs _ hr hn Hno.out).mono ?_
    rintro e w1 ⟨rfl, hb1⟩
    go_wp2_with fail
    go_ret
    unfold DelRet
    rw [E.out, E1.out]
    exact ⟨rfl, own_below H.out hb1, grown_of_below hb1 _⟩
  · obtain ⟨i, hi, hM, hf⟩ := first_of (fun j => isM (gI zs (j * 5))) n hno
    rcases h.2 with ⟨hv, _⟩ | ⟨g', cap', cur, hv, hg, hh, hnc, hm, hsz, htake⟩
    · cases hv
    injection hv with hv1 _ hv2
    injection hv1 with hv1
    injection hv1 with hv1 _
    subst hv1 hv2
    obtain ⟨e1, e2⟩ := keep_first zs i hf (by omega)
    have hcap : cap ≤ 9223372036854775807 := by unfold maxLen at hm; omega
    have hS : Hid (∃ cur, St w g n cap zs (i + 1) cur) := by
      refine ⟨cur, hh, hsz, ?_, fun p hp hp2 => ?_⟩
      · have ec : cntA zs (i + 1) = i := by simp only [cntA]; rw [if_pos hM]; exact e1
        have ek : keepA zs (i + 1) = zs.take (i * 5) := by simp only [keepA]; rw [if_pos hM]; exact e2
        rw [ec, ek, List.map_take, ← htake, List.take_take]
        congr 1
        omega
      · have h1 : (cur.toList.take (n * 5))[p]? = (zs.map I)[p]? := by rw [htake]
        rw [List.getElem?_take, if_pos hp2, Array.getElem?_toList] at h1
        rw [h1]
        have : p < zs.length := by omega
        simp [gI, List.getD, this]
    have ec : cntA zs (i + 1) = i := by simp only [cntA]; rw [if_pos hM]; exact e1
    have Ec := Lib.hid ec
    have HM := Lib.hid hM
    have Hf := Lib.hid hf
    clear hM hf e1 e2 h hh hsz htake hlen hno ec hm
    have hne1 : ((i : Int) == -1) = false := by simp
    go_enter Try.func37, Try.ntmps37
    go_wp2_with fail
    refine (index_some g 0 n cap i zs _ hr hn hi HM.out Hf.out).mono ?_
    rintro e w1 ⟨rfl, hb1⟩
    have hglt : g < w.heap.size := by obtain ⟨c, hc, _⟩ := hS.out; exact hc.lt
    have HS1 : Hid (∃ cur, St w1 g n cap zs (i + 1) cur) := by obtain ⟨c, hc, hr⟩ := hS.out; exact ⟨c, hc.below hb1 hglt, hr⟩
    have Hg1 := Lib.hid (grown_of_below hb1 (some g))
    clear hS hb1 hr
    go_wp2
    go_loopw [5, 6] (fun q r wr => ∃ j : Nat, j ≤ n ∧ cntA zs j < j ∧ q = .int .i64 (cntA zs j : Nat) ∧ r = .int .i64 j ∧ (∃ cur, St wr g n cap zs j cur) ∧ w.grownBy wr (some g)) (fun _ r _ => n - (intOf r).toNat)
    case atStart => exact ⟨i + 1, by omega, by rw [Ec.out]; omega, by rw [Ec.out], by go_num, HS1.out, Hg1.out⟩
    case round =>
      obtain ⟨j, hj, hcl, rfl, rfl, ⟨cur, hblk, hcs, htk, hrest⟩, hgr⟩ := hrel
      have Hblk := Lib.hid hblk
      have Hcs := Lib.hid hcs
      have Htk := Lib.hid htk
      have Hrest := Lib.hid hrest
      have Hgr := Lib.hid hgr
      have hcs5 : n * 5 ≤ cur.size := by omega
      by_cases hlt : j < n
      · have g0 : wr.cell? ⟨g, j * 5, none⟩ = some (I (gI zs (j * 5))) := by rw [hblk.cell]; exact hrest _ (by omega) (by omega)
        have g1 : wr.cell? ⟨g, j * 5 + 1, none⟩ = some (I (gI zs (j * 5 + 1))) := by rw [hblk.cell]; exact hrest _ (by omega) (by omega)
        have g2 : wr.cell? ⟨g, j * 5 + 2, none⟩ = some (I (gI zs (j * 5 + 2))) := by rw [hblk.cell]; exact hrest _ (by omega) (by omega)
        have g3 : wr.cell? ⟨g, j * 5 + 3, none⟩ = some (I (gI zs (j * 5 + 3))) := by rw [hblk.cell]; exact hrest _ (by omega) (by omega)
        have g4 : wr.cell? ⟨g, j * 5 + 4, none⟩ = some (I (gI zs (j * 5 + 4))) := by rw [hblk.cell]; exact hrest _ (by omega) (by omega)
        clear hblk hcs htk hrest hgr
        go_wp2_with fail
        refine (isMesh_any _ _ _ _ _ _).mono ?_
        rintro e w2 ⟨rfl, hb2⟩
        have hgw : g < wr.heap.size := Hblk.out.lt
        have hbox := (Blk.new wr 45 #[I (gI zs (j * 5)), I (gI zs (j * 5 + 1)), I (gI zs (j * 5 + 2)), I (gI zs (j * 5 + 3)), I (gI zs (j * 5 + 4))]).below hb2 (by simp)
        have x0 := hbox.cell 0
        have x1 := hbox.cell 1
        have x2 := hbox.cell 2
        have x3 := hbox.cell 3
        have x4 := hbox.cell 4
        simp only [List.getElem?_toArray, List.getElem?_cons_zero, List.getElem?_cons_succ] at x0 x1 x2 x3 x4
        have hblk2 : Blk w2 g 45 cur := (Hblk.out.alloc _).below hb2 (by simp; omega)
        have Hblk2 := Lib.hid hblk2
        have Hgr2 := Lib.hid (grown_trans (grown_trans Hgr.out (World.grownBy_alloc wr _ _)) (grown_of_below hb2 _))
        clear hb2 hbox g0 g1 g2 g3 g4 Hblk Hgr
        by_cases hM : isM (gI zs (j * 5)) = true
        · clear hblk2 x0 x1 x2 x3 x4
          go_wp2
          go_roundw
          case rel =>
            have e : keepA zs (j + 1) = keepA zs j := by simp only [keepA, hM, if_true]
            have e' : cntA zs (j + 1) = cntA zs j := by simp only [cntA, hM, if_true]
            exact ⟨j + 1, by omega, by omega, by rw [e'], by go_num, ⟨cur, Hblk2.out, Hcs.out, by rw [e, e']; exact Htk.out, fun p hp hp2 => Hrest.out p (by omega) hp2⟩, Hgr2.out⟩
          case measure => simp [intOf]; omega
        · have hM' : isM (gI zs (j * 5)) = false := by simpa using hM
          clear hM
          have hex : ∀ q, q < n * 5 → ∃ u, w2.cell? ⟨g, q, none⟩ = some u := fun q hq => ⟨_, (hblk2.cell q).trans (Array.getElem?_eq_getElem (by omega))⟩
          obtain ⟨u0, s0⟩ := hex (cntA zs j * 5) (by omega)
          obtain ⟨u1, s1⟩ := hex (cntA zs j * 5 + 1) (by omega)
          obtain ⟨u2, s2⟩ := hex (cntA zs j * 5 + 2) (by omega)
          obtain ⟨u3, s3⟩ := hex (cntA zs j * 5 + 3) (by omega)
          obtain ⟨u4, s4⟩ := hex (cntA zs j * 5 + 4) (by omega)
          have f0 : w2.frozen? ⟨g, cntA zs j * 5, none⟩ = false := hblk2.frozen _
          have f1 : w2.frozen? ⟨g, cntA zs j * 5 + 1, none⟩ = false := hblk2.frozen _
          have f2 : w2.frozen? ⟨g, cntA zs j * 5 + 2, none⟩ = false := hblk2.frozen _
          have f3 : w2.frozen? ⟨g, cntA zs j * 5 + 3, none⟩ = false := hblk2.frozen _
          have f4 : w2.frozen? ⟨g, cntA zs j * 5 + 4, none⟩ = false := hblk2.frozen _
          clear hblk2 hex
          go_wp2
          go_roundw
          case rel =>
            have e : keepA zs (j + 1) = keepA zs j ++ act zs j := by simp [keepA, hM']
            have e' : cntA zs (j + 1) = cntA zs j + 1 := by simp [cntA, hM']
            have t1 := take_set cur (cntA zs j * 5) (I (gI zs (j * 5))) _ Htk.out (by omega)
            have t2 := take_set _ (cntA zs j * 5 + 1) (I (gI zs (j * 5 + 1))) _ t1 (by simp; omega)
            have t3 := take_set _ (cntA zs j * 5 + 2) (I (gI zs (j * 5 + 2))) _ t2 (by simp; omega)
            have t4 := take_set _ (cntA zs j * 5 + 3) (I (gI zs (j * 5 + 3))) _ t3 (by simp; omega)
            have t5 := take_set _ (cntA zs j * 5 + 4) (I (gI zs (j * 5 + 4))) _ t4 (by simp; omega)
            refine ⟨j + 1, by omega, by rw [e']; omega, by rw [e']; go_num, by go_num, ⟨_, ((((Hblk2.out.set_ _ _).set_ _ _).set_ _ _).set_ _ _).set_ _ _, by simp; exact Hcs.out, ?_, fun p hp hp2 => ?_⟩, grown_setCell (grown_setCell (grown_setCell (grown_setCell (grown_setCell Hgr2.out _ _) _ _) _ _) _ _) _ _⟩
            · rw [e, e', show (cntA zs j + 1) * 5 = cntA zs j * 5 + 4 + 1 from by omega, t5]
              simp [act]
            · simp only [Array.getElem?_setIfInBounds]
              rw [if_neg (by omega), if_neg (by omega), if_neg (by omega), if_neg (by omega), if_neg (by omega)]
              exact Hrest.out p (by omega) hp2
          case measure => simp [intOf]; omega
      · clear hblk hcs htk hrest hgr
        obtain rfl : j = n := by omega
        obtain ⟨Z, hZ, hclr⟩ := run_clear_blk (P := Try.prog) wr 34 45 _ Try.underlying34 zero_act (by intro v hv; simp [Value.cells] at hv; subst hv; rfl) g (cntA zs j * 5) (j - cntA zs j) (cap - cntA zs j) cur Hblk.out (by omega) (by simp [Value.cells]; omega)
        have hZ5 : Z.length = (j - cntA zs j) * 5 := hZ
        have HZ : Hid (cntA zs j * 5 + Z.length ≤ cur.size) := by show _ ≤ _; omega
        clear hZ hZ5
        go_wp2
        go_ret
        have hlk : ((keepA zs j).map I).length = cntA zs j * 5 := by simp [keepA_len]
        refine ⟨rfl, ⟨hlk, .inr ⟨g, cap, _, rfl, hg, blk_setRow Hblk.out, by omega, by unfold maxLen; omega, ?_, ?_⟩⟩, grown_setRow Hgr.out _⟩
        · rw [rowOf_size _ _ _ HZ.out]; exact Hcs.out
        · rw [rowOf_take _ _ _ HZ.out]; exact Htk.out
end Go.Proofs.Ytebiefhfhjgmaaa.Wom
