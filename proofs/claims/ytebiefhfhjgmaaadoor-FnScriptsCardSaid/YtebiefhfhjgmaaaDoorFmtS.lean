/- spec.FormatAct. -/
import Derived.Test.YtebiefhfhjgmaaaDoorPlain2
import Derived.Test.YtebiefhfhjgmaaaDoorPlN
namespace Go.Proofs.YtebiefhfhjgmaaaDoor.FaS
set_option maxRecDepth 100000
open Go.RowKit Mm Ac AcM AcW Fp FaI Pl
theorem xz_gI (z : List Int) (k j : Nat) (hj : j < 5) (hj0 : j ≠ 0) : gI (xz z k) j = if j ∈ idx k then gI z j else 0 := by
  rcases (show j = 1 ∨ j = 2 ∨ j = 3 ∨ j = 4 by omega) with rfl | rfl | rfl | rfl <;> rfl
theorem below_in {w w1 : World} {o : Obj} (h : Below (w.alloc o).heap.size (w.alloc o) w1) : Below w.heap.size w w1 :=
  ((Below.refl _ _).alloc (Nat.le_refl _) o).trans (h.mono (by simp))
set_option maxHeartbeats 600000 in
theorem spec_no (z : List Int) (hk : gI z 0 < 1 ∨ 10 < gI z 0) (w : World) :
    Calls Tryd.prog 26 #[Agg z] w (FRet z w) := by
  have Hno : Hid (∀ k, ¬ Okz z k) := fun k h => by have a := h.1; have b := h.2.1; have c := h.2.2.1; omega
  have Hk := Lib.hid hk
  clear hk
  go_enter Tryd.func26, Tryd.ntmps26
  go_wp2_with fail
  refine (plain_no z Hk.out _).mono ?_
  rintro e w1 ⟨s, rfl, hb⟩
  have Hb := Lib.hid (below_in hb)
  have hsz := Hb.out.size
  clear hb
  go_wp2
  try (go_region; go_wp2)
  all_goals
    go_ret2
    first | exact fret_no Hno.out (Hb.out.alloc hsz _) | exact fret_no Hno.out (Hb.out.alloc hsz _).drew | exact fret_no Hno.out Hb.out | exact fret_no Hno.out Hb.out.drew

set_option maxHeartbeats 600000 in
theorem spec_bad (z : List Int) (k : Nat) (hk1 : 1 ≤ k) (hk2 : k ≤ 10) (hkk : gI z 0 = (k : Int)) (hnall : ¬ ∀ j, j < 5 → j ≠ 0 → gI (xz z k) j = gI z j) (w : World) :
    Calls Tryd.prog 26 #[Agg z] w (FRet z w) := by
  have Hno : Hid (∀ k, ¬ Okz z k) := fun k' h => by
    have e : k' = k := by have := h.2.2.1; omega
    subst e
    refine hnall fun j hj hj0 => ?_
    rw [xz_gI z k' j hj hj0]
    by_cases hm : j ∈ idx k'
    · rw [if_pos hm]
    · rw [if_neg hm]; exact (h.2.2.2.2 j hj hj0 hm).symm
  have hw0 := word_ne k hk1 hk2
  have Hkk := Lib.hid hkk
  have Hnall := Lib.hid hnall
  clear hkk hnall
  go_enter Tryd.func26, Tryd.ntmps26
  go_wp2_with fail
  refine (plain_any z k hk1 hk2 Hkk.out _).mono ?_
  rintro e w4 ⟨A4, c4, rfl, hown4, hbel4⟩
  have Hb := Lib.hid (below_in hbel4)
  have hsz := Hb.out.size
  have h00 : gI (xz z k) 0 = gI z 0 := by rw [Hkk.out]; rfl
  have hba : Blk w4 w.heap.size 44 #[I (gI z 0), I (gI z 1), I (gI z 2), I (gI z 3), I (gI z 4)] := (Blk.new w _ _).below hbel4 (by simp)
  have ha4 : w.heap.size < w4.heap.size := hba.lt
  have c0 := hba.cell 0
  have c1 := hba.cell 1
  have c2 := hba.cell 2
  have c3 := hba.cell 3
  have c4 := hba.cell 4
  obtain ⟨y, hy⟩ : ∃ y, xz z k = y := ⟨_, rfl⟩
  rw [hy] at Hnall h00 ⊢
  clear hown4 hbel4 hba hy
  go_wp2
  all_goals first
    | (go_ret2; first | exact fret_no Hno.out (Hb.out.alloc hsz _) | exact fret_no Hno.out (Hb.out.alloc hsz _).drew | exact fret_no Hno.out Hb.out | exact fret_no Hno.out Hb.out.drew; done)
    | (exfalso; refine Hnall.out fun j hj hj0 => ?_; rcases (show j = 1 ∨ j = 2 ∨ j = 3 ∨ j = 4 by omega) with rfl | rfl | rfl | rfl <;> first | assumption | (symm; assumption))

set_option maxHeartbeats 600000 in
theorem spec_ok (z : List Int) (k : Nat) (hk1 : 1 ≤ k) (hk2 : k ≤ 10) (hkk : gI z 0 = (k : Int)) (hall : ∀ j, j < 5 → j ≠ 0 → gI (xz z k) j = gI z j) (w : World) :
    Calls Tryd.prog 26 #[Agg z] w (FRet z w) := by
  have hw0 := word_ne k hk1 hk2
  have Hkk := Lib.hid hkk
  have hAgg : Agg (xz z k) = Agg z := by
    have h00 : gI (xz z k) 0 = gI z 0 := by rw [hkk]; rfl
    unfold Agg
    rw [h00, hall 1 (by omega) (by omega), hall 2 (by omega) (by omega), hall 3 (by omega) (by omega), hall 4 (by omega) (by omega)]
  have HAgg := Lib.hid hAgg
  have Hrest : Hid (∀ i, i < 5 → i ≠ 0 → i ∉ idx k → gI z i = 0) := fun i hi5 hi0 hin => by
    have := hall i hi5 hi0
    rw [xz_gI z k i hi5 hi0, if_neg hin] at this
    exact this.symm
  have hlen3 := idx_len k
  clear hkk hall hAgg
  go_enter Tryd.func26, Tryd.ntmps26
  go_wp2_with fail
  refine (plain_any z k hk1 hk2 Hkk.out _).mono ?_
  rintro e w4 ⟨A4, c4, rfl, hown4, hbel4⟩
  rw [HAgg.out]
  have Hb := Lib.hid (below_in hbel4)
  have hsz := Hb.out.size
  have hba : Blk w4 w.heap.size 44 #[I (gI z 0), I (gI z 1), I (gI z 2), I (gI z 3), I (gI z 4)] := (Blk.new w _ _).below hbel4 (by simp)
  have ha4 : w.heap.size < w4.heap.size := hba.lt
  have c0 := hba.cell 0
  have c1 := hba.cell 1
  have c2 := hba.cell 2
  have c3 := hba.cell 3
  have c4 := hba.cell 4
  have Hown := Lib.hid hown4
  clear hown4 hbel4 hba
  go_wp2
  go_loopw [5, 7] (fun v i wr => ∃ q : Nat, q ≤ (idx k).length ∧ i = .int .i64 (q : Int) ∧ v = .string (strP k z q) ∧ (∀ j ∈ (idx k).take q, 0 ≤ gI z j ∧ gI z j ≤ 1000000000) ∧ Below w4.heap.size w4 wr) (fun _ i _ => 3 - (intOf i).toNat)
  case atStart => exact ⟨0, Nat.zero_le _, rfl, by rw [strP_zero], by simp, by first | exact (Below.refl _ _).alloc (Nat.le_refl _) _ | exact ((Below.refl _ _).alloc (Nat.le_refl _) _).drew⟩
  case round =>
    obtain ⟨q, hq, rfl, rfl, hin, hbr⟩ := hrel
    have Hin := Lib.hid hin
    have HBr := Lib.hid hbr
    have HBi : Hid (Below w.heap.size w wr) := Hb.out.trans (hbr.mono hsz)
    have hrw : w4.heap.size ≤ wr.heap.size := hbr.size
    have hss := strP_size k z q hin
    by_cases hlt : q < (idx k).length
    · obtain ⟨gp, rfl, hgp, hpc⟩ := own_cells Hown.out (by omega)
      obtain ⟨i, hi⟩ : ∃ i, (idx k)[q]? = some i := ⟨_, List.getElem?_eq_getElem hlt⟩
      have him := List.mem_of_getElem? hi
      have hi5 : i < 5 := idx_lt k i him
      have hp4 := hpc q (I (gI z i)) (by rw [List.getElem?_map, List.getElem?_map, hi]; rfl)
      have hpi : wr.cell? ⟨gp, q, none⟩ = some (I (gI z i)) := by rw [World.cell?_of_block (hbr.block gp hgp)]; exact hp4
      have hlt3 : (q : Int) < ((idx k).length : Int) := by omega
      have Hi := Lib.hid hi
      clear hpc hp4 hbr hi hin
      by_cases hlo : gI z i < 0
      · have Hno : Hid (∀ k, ¬ Okz z k) := fun k' h => by
          have e : k' = k := by have := h.2.2.1; have := Hkk.out; omega
          subst e
          have := (h.2.2.2.1 i him).1; omega
        go_wp2_with (first | (go_at_call 52; go_in) | fail)
        go_ret2
        exact fret_no Hno.out HBi.out
      have hlo' : 0 ≤ gI z i := by omega
      clear hlo
      by_cases hhi : 1000000000 < gI z i
      · have Hno : Hid (∀ k, ¬ Okz z k) := fun k' h => by
          have e : k' = k := by have := h.2.2.1; have := Hkk.out; omega
          subst e
          have := (h.2.2.2.1 i him).2; omega
        have hb : decide (gI z i ≤ 1000000000) = false := decide_eq_false (by omega)
        have hb0 : decide (0 ≤ gI z i) = true := decide_eq_true (by omega)
        go_wp2_with (first | (go_at_call 52; go_in) | fail)
        go_ret2
        exact fret_no Hno.out HBi.out
      have hhi' : gI z i ≤ 1000000000 := by omega
      have hil := Lib.itoa_length_le (gI z i) (by omega) (by omega)
      clear hhi
      go_wp2_with (first | (go_at_call 52; go_in) | fail)
      refine (Nm.fmt_any (gI z i) _ (by omega) (by omega)).mono ?_
      rintro e w5 ⟨rfl, hb5⟩
      have HB5 : Hid (Below w4.heap.size w4 w5) := HBr.out.trans (hb5.mono hrw)
      clear hb5 hpi
      go_wp2
      go_roundw
      case rel =>
        have e : (idx k).take (q + 1) = (idx k).take q ++ [i] := by
          have h := Hi.out
          rw [List.take_succ_eq_append_getElem hlt]
          rw [List.getElem?_eq_getElem hlt] at h
          injection h with h
          rw [h]
        refine ⟨q + 1, by omega, by go_num, congrArg Value.string (strP_step' k z q i Hi.out), ?_, HB5.out⟩
        rw [e]
        intro j hj
        rcases List.mem_append.1 hj with hj | hj
        · exact Hin.out j hj
        · simp at hj; subst hj; exact ⟨hlo', hhi'⟩
      case measure => simp [intOf]; omega
    · obtain rfl : q = (idx k).length := by omega
      have htk : (idx k).take (idx k).length = idx k := List.take_of_length_le (Nat.le_refl _)
      rw [htk] at Hin
      have Hok : Hid (Okz z k) := ⟨hk1, hk2, Hkk.out, Hin.out, Hrest.out⟩
      clear htk hin hbr
      go_wp2
      go_ret2
      exact ⟨.inl ⟨k, Hok.out, rfl⟩, HBi.out⟩

theorem spec_any (z : List Int) (w : World) : Calls Tryd.prog 26 #[Agg z] w (FRet z w) := by
  by_cases hk : gI z 0 < 1 ∨ 10 < gI z 0
  · exact spec_no z hk w
  · obtain ⟨k, hkk⟩ : ∃ k : Nat, gI z 0 = (k : Int) := ⟨(gI z 0).toNat, by omega⟩
    by_cases hall : ∀ j, j < 5 → j ≠ 0 → gI (xz z k) j = gI z j
    · exact spec_ok z k (by omega) (by omega) hkk hall w
    · exact spec_bad z k (by omega) (by omega) hkk hall w
end Go.Proofs.YtebiefhfhjgmaaaDoor.FaS
