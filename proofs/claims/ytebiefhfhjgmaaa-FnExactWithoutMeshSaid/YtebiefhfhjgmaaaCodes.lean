/- spec.CodesWithoutMesh and impl.CodesWithoutMesh: the codes of the acts that mesh nothing. -/
import Derived.Test.YtebiefhfhjgmaaaSAct
import Derived.Test.YtebiefhfhjgmaaaSInt
import Derived.StillTailTactics
namespace Go.Proofs.Ytebiefhfhjgmaaa.Codes
open Go.RowKit Mm

def isM (x : Int) : Bool := x == 9 || x == 10
/-- The codes of the first k acts that mesh nothing. -/
def keepC (zs cs : List Int) : Nat → List Int
  | 0 => []
  | k + 1 => if isM (gI zs (k * 5)) then keepC zs cs k else keepC zs cs k ++ [gI cs k]
theorem keepC_le (zs cs : List Int) (k : Nat) : (keepC zs cs k).length ≤ k := by
  induction k with
  | zero => simp [keepC]
  | succ k ih =>
    simp only [keepC]
    split
    · omega
    · simp; omega

set_option maxHeartbeats 400000 in
theorem specMesh_any (x0 x1 x2 x3 x4 : Int) (w : World) :
    Calls Try.prog 34 #[.agg #[.int .i64 x0, .int .i64 x1, .int .i64 x2, .int .i64 x3, .int .i64 x4]] w fun e w' => e = .returned (.bool (isM x0)) ∧ Below w.heap.size w w' := by
  by_cases h9 : x0 = 9
  · subst h9
    go_enter Try.func34, Try.ntmps34
    go_wp2
    go_ret
    exact ⟨rfl, by go_grown⟩
  · have h9' : (x0 == 9) = false := by simpa using h9
    by_cases h10 : x0 = 10
    · subst h10
      go_enter Try.func34, Try.ntmps34
      go_wp2
      go_ret
      exact ⟨rfl, by go_grown⟩
    · have h10' : (x0 == 10) = false := by simpa using h10
      have hi : isM x0 = false := by simp [isM, h9, h10]
      have Hi := Lib.hid hi
      clear hi h9 h10
      go_enter Try.func34, Try.ntmps34
      go_wp2
      go_ret
      exact ⟨ret_bool Hi.out.symm, by go_grown⟩

set_option maxHeartbeats 400000 in
theorem isMesh_any (x0 x1 x2 x3 x4 : Int) (w : World) :
    Calls Try.prog 36 #[.agg #[.int .i64 x0, .int .i64 x1, .int .i64 x2, .int .i64 x3, .int .i64 x4]] w fun e w' => e = .returned (.bool (isM x0)) ∧ Below w.heap.size w w' := by
  by_cases h9 : x0 = 9
  · subst h9
    go_enter Try.func36, Try.ntmps36
    go_wp2
    go_ret
    exact ⟨rfl, by go_grown⟩
  · have h9' : (x0 == 9) = false := by simpa using h9
    by_cases h10 : x0 = 10
    · subst h10
      go_enter Try.func36, Try.ntmps36
      go_wp2
      go_ret
      exact ⟨rfl, by go_grown⟩
    · have h10' : (x0 == 10) = false := by simpa using h10
      have hi : isM x0 = false := by simp [isM, h9, h10]
      have Hi := Lib.hid hi
      clear hi h9 h10
      go_enter Try.func36, Try.ntmps36
      go_wp2
      go_ret
      exact ⟨ret_bool Hi.out.symm, by go_grown⟩

set_option maxHeartbeats 400000 in
theorem spec_any (A A' : Option Addr) (n m c c' : Nat) (zs cs : List Int) (w : World) (h : IRow w w.heap.size A n 5 zs) (h' : IRow w w.heap.size A' m 1 cs) (hn : n ≤ 1048576) (hm : m ≤ 1048576) :
    Calls Try.prog 16 #[.slice A n c, .slice A' m c'] w (if n = m then OwnRet w 3 1 (keepC zs cs n).length (keepC zs cs n) else OwnRet w 3 1 0 []) := by
  obtain ⟨i0, hi0, hz0, hz1, hz2⟩ := info_parts SInt.info_t
  by_cases hnm : n = m
  · subst hnm
    rw [if_pos rfl]
    go_enter Try.func16, Try.ntmps16
    go_wp2
    go_loopw [5, 6] (fun v i wr => ∃ k : Nat, k ≤ n ∧ i = .int .i64 k ∧ wr.ownsRow w.heap.size 3 1 v (keepC zs cs k).length ((keepC zs cs k).map I) ∧ Below w.heap.size w wr) (fun _ i _ => n - (intOf i).toNat)
    case atStart => exact ⟨0, Nat.zero_le _, rfl, World.ownsRow_made _ _ _ (Nat.le_refl _) (by decide) rfl, (Below.refl _ _).alloc (Nat.le_refl _) _⟩
    case round =>
      obtain ⟨k, hk, rfl, hown, hbel⟩ := hrel
      have hkl := keepC_le zs cs k
      by_cases hlt : k < n
      · obtain ⟨b, off, rfl, hbB⟩ := h.form (by omega)
        obtain ⟨b', off', rfl, hbB'⟩ := h'.form (by omega)
        have g0 := (hbel.cell (p := ⟨b, off + k * 5, none⟩) hbB).trans (h.at_ hlt (j := 0) (by omega))
        have g1 := (hbel.cell (p := ⟨b, off + k * 5 + 1, none⟩) hbB).trans (h.at_ hlt (j := 1) (by omega))
        have g2 := (hbel.cell (p := ⟨b, off + k * 5 + 2, none⟩) hbB).trans (h.at_ hlt (j := 2) (by omega))
        have g3 := (hbel.cell (p := ⟨b, off + k * 5 + 3, none⟩) hbB).trans (h.at_ hlt (j := 3) (by omega))
        have g4 := (hbel.cell (p := ⟨b, off + k * 5 + 4, none⟩) hbB).trans (h.at_ hlt (j := 4) (by omega))
        have c0 := (hbel.cell (p := ⟨b', off' + k, none⟩) hbB').trans (h'.at1 hlt)
        have Hown := Lib.hid hown
        have Hbel := Lib.hid hbel
        have hsz := hbel.size
        clear hown hbel h h'
        go_wp2_with fail
        refine (specMesh_any _ _ _ _ _ _).mono ?_
        rintro e w1 ⟨rfl, hb1⟩
        have Hown1 := Lib.hid (own_below Hown.out hb1)
        have Hbel1 := Lib.hid (Hbel.out.trans (hb1.mono hsz))
        have c0' := (hb1.cell (p := ⟨b', off' + k, none⟩) (Nat.lt_of_lt_of_le hbB' hsz)).trans c0
        have hsz1 := Nat.le_trans hsz hb1.size
        clear hb1 Hown Hbel hsz g0 g1 g2 g3 g4 c0
        by_cases hM : isM (gI zs (k * 5)) = true
        · go_wp2
          go_roundw
          case rel =>
            have e : keepC zs cs (k + 1) = keepC zs cs k := by simp only [keepC, hM, if_true]
            exact ⟨k + 1, by omega, by go_num, by rw [e]; exact Hown1.out, Hbel1.out⟩
          case measure => simp [intOf]; omega
        · have hM' : isM (gI zs (k * 5)) = false := by simpa using hM
          clear hM
          go_wp2_with (at_builtin; refine wpList_append_own _ rfl (.tmp 27) (.tmp 32) 31 rfl w.heap.size 3 i0 (I 0) 1 8 Try.underlying31 hi0 hz0 hz1 hz2 rfl (by decide) _ _ _ rfl (Hown1.out.alloc _) ⟨w1.heap.size, 0, none⟩ 1 1 [I (gI cs k)] rfl rfl ?c1 ?c2 ?c3 ?c4 ?c5 ?_)
          case c1 => exact cells_new w1 #[I (gI cs k)] _
          case c2 => exact one_I [gI cs k]
          case c3 => unfold maxLen; omega
          case c4 => omega
          case c5 => simp; omega
          intro v2 w2 hown2 hgr2 _
          have Hown2 := Lib.hid hown2
          have Hbel2 := Lib.hid (below_own (Hbel1.out.alloc hsz1 _) (Hown1.out.alloc _) hgr2 (Nat.le_refl _))
          clear hown2 hgr2 Hown1 Hbel1 c0'
          go_wp2
          go_roundw
          case rel =>
            have e : keepC zs cs (k + 1) = keepC zs cs k ++ [gI cs k] := by simp [keepC, hM']
            exact ⟨k + 1, by omega, by go_num, by rw [e, List.length_append, List.map_append]; exact Hown2.out, Hbel2.out⟩
          case measure => simp [intOf]; omega
      · obtain rfl : k = n := by omega
        go_wp2
        go_ret
        exact ownRet_of hown hbel
  · rw [if_neg hnm]
    have hne : ((n : Int) == (m : Int)) = false := by simp; omega
    clear hnm
    go_enter Try.func16, Try.ntmps16
    go_wp2
    go_loop [5, 6] (fun v i => v = .slice (some ⟨w.heap.size, 0, none⟩) 0 0 ∧ i = .int .i64 0) (fun _ _ => 0)
    case atStart => exact ⟨rfl, rfl⟩
    case round =>
      obtain ⟨rfl, rfl⟩ := hrel
      go_wp2
      all_goals
        go_ret
        exact ownRet_of (World.ownsRow_made _ _ _ (Nat.le_refl _) (Nat.zero_le _) rfl) ((Below.refl _ _).alloc (Nat.le_refl _) _)
set_option maxHeartbeats 400000 in
theorem impl_any (A A' : Option Addr) (n m c c' : Nat) (zs cs : List Int) (w : World) (h : IRow w w.heap.size A n 5 zs) (h' : IRow w w.heap.size A' m 1 cs) (hn : n ≤ 1048576) (hm : m ≤ 1048576) :
    Calls Try.prog 19 #[.slice A n c, .slice A' m c'] w (if n = m then OwnRet w 3 1 (keepC zs cs n).length (keepC zs cs n) else OwnRet w 3 1 0 []) := by
  obtain ⟨i0, hi0, hz0, hz1, hz2⟩ := info_parts SInt.info_t
  by_cases hnm : n = m
  · subst hnm
    rw [if_pos rfl]
    go_enter Try.func19, Try.ntmps19
    go_wp2
    go_loopw [5, 16] (fun v i wr => ∃ k : Nat, k ≤ n ∧ i = .int .i64 k ∧ wr.ownsRow w.heap.size 3 1 v (keepC zs cs k).length ((keepC zs cs k).map I) ∧ Below w.heap.size w wr) (fun _ i _ => n - (intOf i).toNat)
    case atStart => exact ⟨0, Nat.zero_le _, rfl, World.ownsRow_made _ _ _ (Nat.le_refl _) (by decide) rfl, (Below.refl _ _).alloc (Nat.le_refl _) _⟩
    case round =>
      obtain ⟨k, hk, rfl, hown, hbel⟩ := hrel
      have hkl := keepC_le zs cs k
      by_cases hlt : k < n
      · obtain ⟨b, off, rfl, hbB⟩ := h.form (by omega)
        obtain ⟨b', off', rfl, hbB'⟩ := h'.form (by omega)
        have g0 := (hbel.cell (p := ⟨b, off + k * 5, none⟩) hbB).trans (h.at_ hlt (j := 0) (by omega))
        have g1 := (hbel.cell (p := ⟨b, off + k * 5 + 1, none⟩) hbB).trans (h.at_ hlt (j := 1) (by omega))
        have g2 := (hbel.cell (p := ⟨b, off + k * 5 + 2, none⟩) hbB).trans (h.at_ hlt (j := 2) (by omega))
        have g3 := (hbel.cell (p := ⟨b, off + k * 5 + 3, none⟩) hbB).trans (h.at_ hlt (j := 3) (by omega))
        have g4 := (hbel.cell (p := ⟨b, off + k * 5 + 4, none⟩) hbB).trans (h.at_ hlt (j := 4) (by omega))
        have hown := hown.alloc (.cells #[I (gI zs (k * 5)), I (gI zs (k * 5 + 1)), I (gI zs (k * 5 + 2)), I (gI zs (k * 5 + 3)), I (gI zs (k * 5 + 4))] 45)
        have hbel := hbel.alloc hbel.size (.cells #[I (gI zs (k * 5)), I (gI zs (k * 5 + 1)), I (gI zs (k * 5 + 2)), I (gI zs (k * 5 + 3)), I (gI zs (k * 5 + 4))] 45)
        have c0 := (hbel.cell (p := ⟨b', off' + k, none⟩) hbB').trans (h'.at1 hlt)
        have Hown := Lib.hid hown
        have Hbel := Lib.hid hbel
        have hsz := hbel.size
        clear hown hbel h h'
        go_wp2_with fail
        refine (isMesh_any _ _ _ _ _ _).mono ?_
        rintro e w1 ⟨rfl, hb1⟩
        have Hown1 := Lib.hid (own_below Hown.out hb1)
        have Hbel1 := Lib.hid (Hbel.out.trans (hb1.mono hsz))
        have c0' := (hb1.cell (p := ⟨b', off' + k, none⟩) (Nat.lt_of_lt_of_le hbB' hsz)).trans c0
        have hsz1 := Nat.le_trans hsz hb1.size
        clear hb1 Hown Hbel hsz g0 g1 g2 g3 g4 c0
        by_cases hM : isM (gI zs (k * 5)) = true
        · go_wp2
          go_roundw
          case rel =>
            have e : keepC zs cs (k + 1) = keepC zs cs k := by simp only [keepC, hM, if_true]
            exact ⟨k + 1, by omega, by go_num, by rw [e]; exact Hown1.out, Hbel1.out⟩
          case measure => simp [intOf]; omega
        · have hM' : isM (gI zs (k * 5)) = false := by simpa using hM
          clear hM
          go_wp2_with (at_builtin; refine wpList_append_own _ rfl (.tmp 24) (.tmp 29) 31 rfl w.heap.size 3 i0 (I 0) 1 8 Try.underlying31 hi0 hz0 hz1 hz2 rfl (by decide) _ _ _ rfl (Hown1.out.alloc _) ⟨w1.heap.size, 0, none⟩ 1 1 [I (gI cs k)] rfl rfl ?c1 ?c2 ?c3 ?c4 ?c5 ?_)
          case c1 => exact cells_new w1 #[I (gI cs k)] _
          case c2 => exact one_I [gI cs k]
          case c3 => unfold maxLen; omega
          case c4 => omega
          case c5 => simp; omega
          intro v2 w2 hown2 hgr2 _
          have Hown2 := Lib.hid hown2
          have Hbel2 := Lib.hid (below_own (Hbel1.out.alloc hsz1 _) (Hown1.out.alloc _) hgr2 (Nat.le_refl _))
          clear hown2 hgr2 Hown1 Hbel1 c0'
          go_wp2
          go_roundw
          case rel =>
            have e : keepC zs cs (k + 1) = keepC zs cs k ++ [gI cs k] := by simp [keepC, hM']
            exact ⟨k + 1, by omega, by go_num, by rw [e, List.length_append, List.map_append]; exact Hown2.out, Hbel2.out⟩
          case measure => simp [intOf]; omega
      · obtain rfl : k = n := by omega
        go_wp2
        go_ret
        exact ownRet_of hown hbel
  · rw [if_neg hnm]
    have hne : ((n : Int) != (m : Int)) = true := by simp; omega
    clear hnm
    go_enter Try.func19, Try.ntmps19
    go_wp2
    go_ret
    exact ownRet_of (World.ownsRow_nil _ _ _ _) (Below.refl _ _)
end Go.Proofs.Ytebiefhfhjgmaaa.Codes
