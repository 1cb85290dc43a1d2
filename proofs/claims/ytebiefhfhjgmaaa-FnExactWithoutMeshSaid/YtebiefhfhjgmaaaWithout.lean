/- spec.WithoutMesh, impl.WithoutMesh (through slices.IndexFunc and slices.DeleteFunc): the acts that mesh nothing. -/
import Derived.Test.YtebiefhfhjgmaaaCodes
import Derived.Test.YtebiefhfhjgmaaaMem2
import Derived.Lib.SliceRun
namespace Go.Proofs.Ytebiefhfhjgmaaa.Wom
open Go.RowKit Mm Codes

theorem info_t : (Try.prog.info? 45).map (fun i => (i.zero, i.size, i.bytes)) = some (some (.agg #[I 0, I 0, I 0, I 0, I 0]), 5, 40) := by kernel_rfl

/-- The five numbers of act k. -/
def act (zs : List Int) (k : Nat) : List Int := [gI zs (k * 5), gI zs (k * 5 + 1), gI zs (k * 5 + 2), gI zs (k * 5 + 3), gI zs (k * 5 + 4)]
def cntA (zs : List Int) : Nat → Nat
  | 0 => 0
  | k + 1 => if isM (gI zs (k * 5)) then cntA zs k else cntA zs k + 1
/-- The numbers of those of the first k acts that mesh nothing. -/
def keepA (zs : List Int) : Nat → List Int
  | 0 => []
  | k + 1 => if isM (gI zs (k * 5)) then keepA zs k else keepA zs k ++ act zs k
theorem cntA_le (zs : List Int) (k : Nat) : cntA zs k ≤ k := by
  induction k with
  | zero => simp [cntA]
  | succ k ih => simp only [cntA]; split <;> omega
theorem keepA_len (zs : List Int) (k : Nat) : (keepA zs k).length = cntA zs k * 5 := by
  induction k with
  | zero => simp [keepA, cntA]
  | succ k ih =>
    simp only [keepA, cntA]
    split
    · exact ih
    · simp [ih, act]; omega
theorem first_of (p : Nat → Bool) (n : Nat) (h : ¬ ∀ j, j < n → p j = false) : ∃ i, i < n ∧ p i = true ∧ ∀ j, j < i → p j = false := by
  induction n with
  | zero => exact absurd (fun j hj => by omega) h
  | succ n ih =>
    by_cases h' : ∀ j, j < n → p j = false
    · refine ⟨n, by omega, ?_, h'⟩
      cases hp : p n with
      | true => rfl
      | false =>
        refine absurd (fun j hj => ?_) h
        rcases Nat.lt_or_ge j n with hlt | hge
        · exact h' j hlt
        · obtain rfl : j = n := by omega
          exact hp
    · obtain ⟨i, hi, hp, hr⟩ := ih h'
      exact ⟨i, by omega, hp, hr⟩
/-- Before the first act that meshes all are kept. -/
theorem keep_first (zs : List Int) (i : Nat) (h : ∀ j, j < i → isM (gI zs (j * 5)) = false) (hl : i * 5 ≤ zs.length) : cntA zs i = i ∧ keepA zs i = zs.take (i * 5) := by
  induction i with
  | zero => simp [cntA, keepA]
  | succ i ih =>
    obtain ⟨h1, h2⟩ := ih (fun j hj => h j (by omega)) (by omega)
    have hM := h i (by omega)
    refine ⟨by simp [cntA, hM, h1], ?_⟩
    simp only [keepA, hM, h2]
    rw [if_neg (by simp)]
    apply List.ext_getElem?
    intro q
    by_cases hq : q < i * 5
    · rw [List.getElem?_append_left (by simp; omega), List.getElem?_take, List.getElem?_take, if_pos hq, if_pos (by omega)]
    · rw [List.getElem?_append_right (by simp; omega), List.getElem?_take, List.length_take, Nat.min_eq_left (by omega)]
      by_cases hq2 : q < (i + 1) * 5
      · rw [if_pos hq2]
        have hz : q < zs.length := by omega
        rcases (show q = i * 5 ∨ q = i * 5 + 1 ∨ q = i * 5 + 2 ∨ q = i * 5 + 3 ∨ q = i * 5 + 4 by omega) with rfl | rfl | rfl | rfl | rfl <;> simp [act, gI, List.getD, hz]
      · rw [if_neg hq2]
        exact List.getElem?_eq_none (by simp [act]; omega)

set_option maxHeartbeats 400000 in
theorem spec_any (A : Option Addr) (n c : Nat) (zs : List Int) (w : World) (h : IRow w w.heap.size A n 5 zs) (hn : n ≤ 1048576) :
    Calls Try.prog 25 #[.slice A n c] w (OwnRet w 45 5 (cntA zs n) (keepA zs n)) := by
  obtain ⟨i0, hi0, hz0, hz1, hz2⟩ := info_parts info_t
  go_enter Try.func25, Try.ntmps25
  go_wp2
  go_loopw [3, 4] (fun v i wr => ∃ k : Nat, k ≤ n ∧ i = .int .i64 k ∧ wr.ownsRow w.heap.size 45 5 v (cntA zs k) ((keepA zs k).map I) ∧ Below w.heap.size w wr) (fun _ i _ => n - (intOf i).toNat)
  case atStart => exact ⟨0, Nat.zero_le _, rfl, World.ownsRow_made _ _ _ (Nat.le_refl _) (Nat.zero_le _) rfl, (Below.refl _ _).alloc (Nat.le_refl _) _⟩
  case round =>
    obtain ⟨k, hk, rfl, hown, hbel⟩ := hrel
    have hkl := cntA_le zs k
    by_cases hlt : k < n
    · obtain ⟨b, off, rfl, hbB⟩ := h.form (by omega)
      have g0 := (hbel.cell (p := ⟨b, off + k * 5, none⟩) hbB).trans (h.at_ hlt (j := 0) (by omega))
      have g1 := (hbel.cell (p := ⟨b, off + k * 5 + 1, none⟩) hbB).trans (h.at_ hlt (j := 1) (by omega))
      have g2 := (hbel.cell (p := ⟨b, off + k * 5 + 2, none⟩) hbB).trans (h.at_ hlt (j := 2) (by omega))
      have g3 := (hbel.cell (p := ⟨b, off + k * 5 + 3, none⟩) hbB).trans (h.at_ hlt (j := 3) (by omega))
      have g4 := (hbel.cell (p := ⟨b, off + k * 5 + 4, none⟩) hbB).trans (h.at_ hlt (j := 4) (by omega))
      have Hown := Lib.hid hown
      have Hbel := Lib.hid hbel
      have hsz := hbel.size
      clear hown hbel h
      go_wp2_with fail
      refine (specMesh_any _ _ _ _ _ _).mono ?_
      rintro e w1 ⟨rfl, hb1⟩
      have Hown1 := Lib.hid (own_below Hown.out hb1)
      have Hbel1 := Lib.hid (Hbel.out.trans (hb1.mono hsz))
      have hlt' := Nat.lt_of_lt_of_le hbB hsz
      have g0 := (hb1.cell (p := ⟨b, off + k * 5, none⟩) hlt').trans g0
      have g1 := (hb1.cell (p := ⟨b, off + k * 5 + 1, none⟩) hlt').trans g1
      have g2 := (hb1.cell (p := ⟨b, off + k * 5 + 2, none⟩) hlt').trans g2
      have g3 := (hb1.cell (p := ⟨b, off + k * 5 + 3, none⟩) hlt').trans g3
      have g4 := (hb1.cell (p := ⟨b, off + k * 5 + 4, none⟩) hlt').trans g4
      have hsz1 := Nat.le_trans hsz hb1.size
      clear hb1 Hown Hbel hsz
      by_cases hM : isM (gI zs (k * 5)) = true
      · go_wp2
        go_roundw
        case rel =>
          have e : keepA zs (k + 1) = keepA zs k := by simp only [keepA, hM, if_true]
          have e' : cntA zs (k + 1) = cntA zs k := by simp only [cntA, hM, if_true]
          exact ⟨k + 1, by omega, by go_num, by rw [e, e']; exact Hown1.out, Hbel1.out⟩
        case measure => simp [intOf]; omega
      · have hM' : isM (gI zs (k * 5)) = false := by simpa using hM
        clear hM
        go_wp2_with (at_builtin; refine wpList_append_own _ rfl (.tmp 18) (.tmp 23) 34 rfl w.heap.size 45 i0 _ 5 40 Try.underlying34 hi0 hz0 hz1 hz2 rfl (by omega) _ _ _ rfl (Hown1.out.alloc _) ⟨w1.heap.size, 0, none⟩ 1 1 ((act zs k).map I) rfl rfl ?c1 ?c2 ?c3 ?c4 ?c5 ?_)
        case c1 => exact cells_new w1 #[I (gI zs (k * 5)), I (gI zs (k * 5 + 1)), I (gI zs (k * 5 + 2)), I (gI zs (k * 5 + 3)), I (gI zs (k * 5 + 4))] _
        case c2 => exact one_I _
        case c3 => unfold maxLen; omega
        case c4 => omega
        case c5 => simp; omega
        intro v2 w2 hown2 hgr2 _
        have Hown2 := Lib.hid hown2
        have Hbel2 := Lib.hid (below_own (Hbel1.out.alloc hsz1 _) (Hown1.out.alloc _) hgr2 (Nat.le_refl _))
        clear hown2 hgr2 Hown1 Hbel1 g0 g1 g2 g3 g4
        go_wp2
        go_roundw
        case rel =>
          have e : keepA zs (k + 1) = keepA zs k ++ act zs k := by simp [keepA, hM']
          have e' : cntA zs (k + 1) = cntA zs k + 1 := by simp [cntA, hM']
          exact ⟨k + 1, by omega, by go_num, by rw [e, e', List.map_append]; exact Hown2.out, Hbel2.out⟩
        case measure => simp [intOf]; omega
    · obtain rfl : k = n := by omega
      go_wp2
      go_ret
      exact ownRet_of hown hbel

/-- slices.IndexFunc at isMesh: no act meshes. -/
theorem index_none (b off : Nat) (n c : Nat) (zs : List Int) (w : World) (h : IRow w w.heap.size (some ⟨b, off, none⟩) n 5 zs) (hn : n ≤ 1048576) (hno : ∀ j, j < n → isM (gI zs (j * 5)) = false) :
    Calls Try.prog 44 #[.slice (some ⟨b, off, none⟩) n c, .func (.func 36) #[] #[]] w fun e w' => e = .returned (.int .i64 (-1)) ∧ Below w.heap.size w w' := by
  have Hno := Lib.hid hno
  clear hno
  go_enter Try.func44, Try.ntmps44
  go_wp2
  go_loopw [8] (fun i wr => ∃ k : Nat, k ≤ n ∧ i = .int .i64 (k : Int) ∧ Below w.heap.size w wr) (fun i _ => n - (intOf i).toNat)
  case atStart => exact ⟨0, Nat.zero_le _, rfl, Below.refl _ _⟩
  case round =>
    obtain ⟨k, hk, rfl, hbel⟩ := hrel
    by_cases hlt : k < n
    · obtain ⟨_, _, hf, hbB⟩ := h.form (by omega)
      injection hf with hf; injection hf with hf1 hf2; subst hf1 hf2
      have g0 := (hbel.cell (p := ⟨b, off + k * 5, none⟩) hbB).trans (h.at_ hlt (j := 0) (by omega))
      have g1 := (hbel.cell (p := ⟨b, off + k * 5 + 1, none⟩) hbB).trans (h.at_ hlt (j := 1) (by omega))
      have g2 := (hbel.cell (p := ⟨b, off + k * 5 + 2, none⟩) hbB).trans (h.at_ hlt (j := 2) (by omega))
      have g3 := (hbel.cell (p := ⟨b, off + k * 5 + 3, none⟩) hbB).trans (h.at_ hlt (j := 3) (by omega))
      have g4 := (hbel.cell (p := ⟨b, off + k * 5 + 4, none⟩) hbB).trans (h.at_ hlt (j := 4) (by omega))
      have hM := Hno.out k hlt
      have Hbel := Lib.hid hbel
      clear hbel h
      go_wp2_with fail
      refine (isMesh_any _ _ _ _ _ _).mono ?_
      rintro e w1 ⟨rfl, hb1⟩
      have Hbel1 := Lib.hid (Hbel.out.trans (hb1.mono Hbel.out.size))
      clear hb1 Hbel
      go_wp2
      go_roundw
      case rel => exact ⟨k + 1, by omega, by go_num, Hbel1.out⟩
      case measure => simp [intOf]; omega
    · go_wp2
      go_ret
      exact ⟨rfl, hbel⟩
/-- slices.IndexFunc at isMesh: act i is the first that meshes. -/
theorem index_some (b off : Nat) (n c i : Nat) (zs : List Int) (w : World) (h : IRow w w.heap.size (some ⟨b, off, none⟩) n 5 zs) (hn : n ≤ 1048576) (hi : i < n) (hM : isM (gI zs (i * 5)) = true) (hno : ∀ j, j < i → isM (gI zs (j * 5)) = false) :
    Calls Try.prog 44 #[.slice (some ⟨b, off, none⟩) n c, .func (.func 36) #[] #[]] w fun e w' => e = .returned (.int .i64 i) ∧ Below w.heap.size w w' := by
  have Hno := Lib.hid hno
  have HM := Lib.hid hM
  clear hno hM
  go_enter Try.func44, Try.ntmps44
  go_wp2
  go_loopw [8] (fun q wr => ∃ k : Nat, k ≤ i ∧ q = .int .i64 (k : Int) ∧ Below w.heap.size w wr) (fun q _ => n - (intOf q).toNat)
  case atStart => exact ⟨0, Nat.zero_le _, rfl, Below.refl _ _⟩
  case round =>
    obtain ⟨k, hk, rfl, hbel⟩ := hrel
    have hlt : k < n := by omega
    obtain ⟨_, _, hf, hbB⟩ := h.form (by omega)
    injection hf with hf; injection hf with hf1 hf2; subst hf1 hf2
    have g0 := (hbel.cell (p := ⟨b, off + k * 5, none⟩) hbB).trans (h.at_ hlt (j := 0) (by omega))
    have g1 := (hbel.cell (p := ⟨b, off + k * 5 + 1, none⟩) hbB).trans (h.at_ hlt (j := 1) (by omega))
    have g2 := (hbel.cell (p := ⟨b, off + k * 5 + 2, none⟩) hbB).trans (h.at_ hlt (j := 2) (by omega))
    have g3 := (hbel.cell (p := ⟨b, off + k * 5 + 3, none⟩) hbB).trans (h.at_ hlt (j := 3) (by omega))
    have g4 := (hbel.cell (p := ⟨b, off + k * 5 + 4, none⟩) hbB).trans (h.at_ hlt (j := 4) (by omega))
    have Hbel := Lib.hid hbel
    clear hbel h
    go_wp2_with fail
    refine (isMesh_any _ _ _ _ _ _).mono ?_
    rintro e w1 ⟨rfl, hb1⟩
    have Hbel1 := Lib.hid (Hbel.out.trans (hb1.mono Hbel.out.size))
    clear hb1 Hbel
    by_cases hki : k = i
    · subst hki
      have hM := HM.out
      go_wp2
      go_ret
      exact ⟨rfl, Hbel1.out⟩
    · have hM := Hno.out k (by omega)
      go_wp2
      go_roundw
      case rel => exact ⟨k + 1, by omega, by go_num, Hbel1.out⟩
      case measure => simp [intOf]; omega
end Go.Proofs.Ytebiefhfhjgmaaa.Wom
