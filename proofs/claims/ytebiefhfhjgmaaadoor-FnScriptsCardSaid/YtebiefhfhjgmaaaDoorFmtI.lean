/- impl.FormatAct: the text of an act, for all arguments. -/
import Derived.Test.YtebiefhfhjgmaaaDoorFmtP
import Derived.Test.YtebiefhfhjgmaaaDoorActM
import Derived.Test.YtebiefhfhjgmaaaDoorCode
namespace Go.Proofs.YtebiefhfhjgmaaaDoor.FaI
set_option maxRecDepth 100000
open Go.RowKit Mm Ac AcM AcW Fp Tb

/-- What FormatAct hands back. -/
def FRet (z : List Int) (w : World) (e : Ending) (w' : World) : Prop :=
  ((∃ k, Okz z k ∧ e = .returned (.tuple #[.string (text k z), .bool true])) ∨ ((∀ k, ¬ Okz z k) ∧ e = .returned (.tuple #[.string ⟨#[]⟩, .bool false]))) ∧ Below w.heap.size w w'
theorem fret_no {z : List Int} {w w' : World} (h : ∀ k, ¬ Okz z k) (hb : Below w.heap.size w w') : FRet z w (.returned (.tuple #[.string ⟨#[]⟩, .bool false])) w' := ⟨.inr ⟨h, rfl⟩, hb⟩
theorem grown_tr {a b c : World} {row : Option Nat} (h : a.grownBy b row) (k : b.grownBy c row) : a.grownBy c row :=
  ⟨k.os.trans h.os, k.tape.trans h.tape, k.output.trans h.output, Nat.le_trans h.size k.size, fun i hi hne => (k.block i (Nat.lt_of_lt_of_le hi h.size) hne).trans (h.block i hi hne)⟩
def bArr (z : List Int) (k q : Nat) : Array Value := ((zq z k q).map I).toArray
theorem bArr_zero (z : List Int) (k : Nat) : bArr z k 0 = #[I (gI z 0), I (gI z 1), I (gI z 2), I (gI z 3), I (gI z 4)] := rfl
theorem bArr_cell {w : World} {a : Nat} {t : TypeId} {z : List Int} {k q : Nat} (h : Blk w a t (bArr z k q)) (j : Nat) (hj : j < 5) : w.cell? ⟨a, j, none⟩ = some (I (gI (zq z k q) j)) := by
  rw [h.cell]
  unfold bArr
  have hl := zq_len z k q
  simp [gI, List.getD, hl, hj]
theorem bArr_set (z : List Int) (k q i : Nat) (hi : (idx k)[q]? = some i) : (bArr z k q).setIfInBounds i (I 0) = bArr z k (q + 1) := by
  have e1 : (idx k).getD q 0 = i := by simp [List.getD, hi]
  unfold bArr
  simp only [zq, e1]
  apply Array.ext_getElem?
  intro j
  rw [Array.getElem?_setIfInBounds]
  simp only [List.size_toArray, List.length_map, zq_len, List.getElem?_toArray, List.getElem?_map, List.getElem?_set]
  by_cases hj : i = j
  · subst hj
    by_cases h5 : i < 5
    · simp [h5]
    · simp [h5]
  · simp [hj]
theorem own_cells {w : World} {base n c : Nat} {e : TypeId} {A : Option Addr} {xs : List Value} (h : w.ownsRow base e 1 (.slice A n c) n xs) (hn : 0 < n) : ∃ g, A = some ⟨g, 0, none⟩ ∧ g < w.heap.size ∧ ∀ i v, xs[i]? = some v → w.cell? ⟨g, i, none⟩ = some v := by
  rcases h.2 with ⟨_, h0⟩ | ⟨g, cap, cur, hv, _, hh, _⟩
  · omega
  · injection hv with hA _ _
    subst hA
    refine ⟨g, rfl, (Array.getElem?_eq_some_iff.1 hh).1, fun i v hi => ?_⟩
    have := h.cells (g := g) rfl i v hi
    have hadd : (⟨g, 0, none⟩ : Addr).add i = ⟨g, i, none⟩ := by unfold Addr.add; split <;> simp_all
    rwa [hadd] at this
theorem word_ne (k : Nat) (h1 : 1 ≤ k) (h2 : k ≤ 10) : ((word k).toList.isEmpty) = false := by
  rcases kinds k h1 h2 with rfl | rfl | rfl | rfl | rfl | rfl | rfl | rfl | rfl | rfl <;> (rw [ByteArray.toList_eq]; rfl)

set_option maxHeartbeats 4000000 in
theorem impl_any (z : List Int) (w : World) (ht : Tab w) :
    Calls Tryd.prog 28 #[Agg z] w (FRet z w) := by
  by_cases hk : gI z 0 < 1 ∨ 10 < gI z 0
  · have hno : ∀ k, ¬ Okz z k := fun k h => by have a := h.1; have b := h.2.1; have c := h.2.2.1; omega
    have Hno := Lib.hid hno
    clear hno
    go_enter Tryd.func28, Tryd.ntmps28
    go_wp2_with fail
    refine (parts_no (gI z 0) hk w.heap.size _ ((Blk.new w _ _).cell 0)).mono ?_
    rintro e w1 ⟨rfl, rfl⟩
    go_wp2
    go_ret2
    exact fret_no Hno.out (by go_grown)
  · obtain ⟨k, hkk⟩ : ∃ k : Nat, gI z 0 = (k : Int) := ⟨(gI z 0).toNat, by omega⟩
    have hk1 : 1 ≤ k := by omega
    have hk2 : k ≤ 10 := by omega
    have Hkk := Lib.hid hkk
    have hw0 := word_ne k hk1 hk2
    clear hk hkk
    go_enter Tryd.func28, Tryd.ntmps28
    go_wp2_with fail
    refine (parts_any k hk1 hk2 w.heap.size (gI z 1) (gI z 2) (gI z 3) (gI z 4) _ (by rw [← Hkk.out]; exact Blk.new w _ _)).mono ?_
    rintro e w4 ⟨A4, c4, rfl, hown4, hbel4⟩
    have hba : Blk w4 w.heap.size 44 (bArr z k 0) := (Blk.new w _ _).below hbel4 (by simp)
    have Hba := Lib.hid hba
    have ha4 : w.heap.size < w4.heap.size := hba.lt
    have Hown4 := Lib.hid hown4
    have Hb4 : Hid (Below w.heap.size w w4) := ((Below.refl _ _).alloc (Nat.le_refl _) _).trans (hbel4.mono (by simp))
    have Ht := Lib.hid ht
    have hlen3 := idx_len k
    clear hba hown4 hbel4 ht
    go_wp2
    go_loopw [4, 16] (fun v i wr => ∃ q : Nat, q ≤ (idx k).length ∧ i = .int .i64 (q : Int) ∧ v = .string (strP k z q) ∧ Blk wr w.heap.size 44 (bArr z k q) ∧ (∀ j ∈ (idx k).take q, 0 ≤ gI z j ∧ gI z j ≤ 1000000000) ∧ w4.grownBy wr (some w.heap.size)) (fun _ i _ => 3 - (intOf i).toNat)
    case atStart => exact ⟨0, Nat.zero_le _, rfl, by rw [strP_zero], Hba.out, by simp, grown_refl _ _⟩
    case round =>
      obtain ⟨q, hq, rfl, rfl, hbi, hin, hgr⟩ := hrel
      have Hbi := Lib.hid hbi
      have Hin := Lib.hid hin
      have Hgr := Lib.hid hgr
      have hrw : w4.heap.size ≤ wr.heap.size := hgr.size
      have HBi : Hid (Below w.heap.size w wr) := Hb4.out.grown hgr (by omega) (fun k hk => by injection hk; omega)
      have hsz := strP_size k z q hin
      by_cases hlt : q < (idx k).length
      · obtain ⟨gp, rfl, hgp, hpc⟩ := own_cells Hown4.out (by omega)
        have hgp2 := (Hown4.out.lt gp rfl).1
        rw [World.size_alloc] at hgp2
        obtain ⟨i, hi⟩ : ∃ i, (idx k)[q]? = some i := ⟨_, List.getElem?_eq_getElem hlt⟩
        have him := List.mem_of_getElem? hi
        have hi5 : i < 5 := idx_lt k i him
        have hp4 := hpc q (.pointer (some ⟨w.heap.size, i, none⟩)) (by unfold Ptrs; rw [List.getElem?_map, hi]; rfl)
        have hpi := hgr.cell hp4 (fun e => by injection e with e; have e2 : gp = w.heap.size := e; omega)
        have hci := bArr_cell hbi i hi5
        rw [zq_at z k q i hi] at hci
        have hlt3 : (q : Int) < ((idx k).length : Int) := by omega
        have Hi := Lib.hid hi
        clear hpc hp4 hgr hbi hi hin
        by_cases hlo : gI z i < 0
        · have hno : ∀ k, ¬ Okz z k := fun k' h => by
            have e : k' = k := by have := h.2.2.1; have := Hkk.out; omega
            subst e
            have := (h.2.2.2.1 i him).1; omega
          have Hno := Lib.hid hno
          clear hno
          go_wp2
          go_ret2
          exact fret_no Hno.out HBi.out
        have hlo' : 0 ≤ gI z i := by omega
        clear hlo
        by_cases hhi : 1000000000 < gI z i
        · have hno : ∀ k, ¬ Okz z k := fun k' h => by
            have e : k' = k := by have := h.2.2.1; have := Hkk.out; omega
            subst e
            have := (h.2.2.2.1 i him).2; omega
          have Hno := Lib.hid hno
          clear hno
          have hb : decide (gI z i ≤ 1000000000) = false := decide_eq_false (by omega)
          have hb0 : decide (0 ≤ gI z i) = true := decide_eq_true (by omega)
          go_wp2
          go_ret2
          exact fret_no Hno.out HBi.out
        have hhi' : gI z i ≤ 1000000000 := by omega
        have hil := Lib.itoa_length_le (gI z i) (by omega) (by omega)
        clear hhi
        go_wp2_with (first | (go_at_call 50; go_in) | fail)
        refine (Fc.int_any (gI z i) _ (by omega) (by omega) (tab_below Ht.out HBi.out)).mono ?_
        rintro e w5 ⟨rfl, hb5⟩
        have hba5 : Blk w5 w.heap.size 44 (bArr z k q) := Hbi.out.below hb5 Hbi.out.lt
        have s5 := bArr_cell hba5 i hi5
        have f5 := hba5.frozen i
        have Hba5 := Lib.hid hba5
        have Hgr5 := Lib.hid (grown_tr Hgr.out (grown_of_below hb5 (some w.heap.size)))
        clear hb5 hba5 Hbi Hgr HBi hpi hci
        go_wp2
        go_roundw
        case rel =>
          have e : (idx k).take (q + 1) = (idx k).take q ++ [i] := by
            have h := Hi.out
            rw [List.take_succ_eq_append_getElem hlt]
            rw [List.getElem?_eq_getElem hlt] at h
            injection h with h
            rw [h]
          refine ⟨q + 1, by omega, by go_num, congrArg Value.string (strP_step k z q i Hi.out), ?_, ?_, grown_setCell Hgr5.out _ _⟩
          · rw [← bArr_set z k q i Hi.out]; exact Hba5.out.set_ i _
          · rw [e]
            intro j hj
            rcases List.mem_append.1 hj with hj | hj
            · exact Hin.out j hj
            · simp at hj; subst hj; exact ⟨hlo', hhi'⟩
        case measure => simp [intOf]; omega
      · obtain rfl : q = (idx k).length := by omega
        have c0 := bArr_cell hbi 0 (by omega)
        have c1 := bArr_cell hbi 1 (by omega)
        have c2 := bArr_cell hbi 2 (by omega)
        have c3 := bArr_cell hbi 3 (by omega)
        have c4 := bArr_cell hbi 4 (by omega)
        have htk : (idx k).take (idx k).length = idx k := List.take_of_length_le (Nat.le_refl _)
        rw [htk] at Hin
        have hz : ∀ j, j < 5 → gI (zq z k (idx k).length) j = if j ∈ idx k then 0 else gI z j := fun j hj => by rw [zq_gI z k _ j hj (Nat.le_refl _), htk]
        have Hz := Lib.hid hz
        clear hbi hgr hin htk hz
        by_cases hall : ∀ j, j < 5 → j ≠ 0 → gI (zq z k (idx k).length) j = 0
        · have e1 := hall 1 (by omega) (by omega)
          have e2 := hall 2 (by omega) (by omega)
          have e3 := hall 3 (by omega) (by omega)
          have e4 := hall 4 (by omega) (by omega)
          rw [e1] at c1
          rw [e2] at c2
          rw [e3] at c3
          rw [e4] at c4
          have hok : Okz z k := ⟨hk1, hk2, Hkk.out, Hin.out, fun i hi5 hi0 hin => by
            have := hall i hi5 hi0
            rw [Hz.out i hi5, if_neg hin] at this
            exact this⟩
          have Hok := Lib.hid hok
          clear hall e1 e2 e3 e4 hok
          go_wp2
          go_ret2
          exact ⟨.inl ⟨k, Hok.out, rfl⟩, HBi.out⟩
        · have hno : ∀ k, ¬ Okz z k := fun k' h => by
            have e : k' = k := by have := h.2.2.1; have := Hkk.out; omega
            subst e
            refine hall fun j hj hj0 => ?_
            rw [Hz.out j hj]
            by_cases hm : j ∈ idx k'
            · rw [if_pos hm]
            · rw [if_neg hm]; exact h.2.2.2.2 j hj hj0 hm
          have Hno := Lib.hid hno
          have Hall := Lib.hid hall
          clear hno hall
          go_wp2
          all_goals first
            | (go_ret2; exact fret_no Hno.out HBi.out)
            | (exfalso; refine Hall.out fun j hj hj0 => ?_; rcases (show j = 1 ∨ j = 2 ∨ j = 3 ∨ j = 4 by omega) with rfl | rfl | rfl | rfl <;> assumption)
end Go.Proofs.YtebiefhfhjgmaaaDoor.FaI
