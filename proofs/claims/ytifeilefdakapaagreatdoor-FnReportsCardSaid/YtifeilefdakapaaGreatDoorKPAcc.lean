/- FormatAccount of both sides: what they hand back, for all accounts. -/
import Derived.Test.YtifeilefdakapaaGreatDoorKPSpan3
import Derived.Lib.Join
namespace Go.Proofs.YtifeilefdakapaaGreatDoor.Fa
open Go.RowKit Mm Tb Bt
set_option maxRecDepth 8000

theorem blk_new' (w : World) (t : TypeId) (cs : Array Value) {g : Nat} (hg : g = w.heap.size) : Blk (w.alloc (.cells cs t)) g t cs := by subst hg; exact Blk.new w t cs
/-- The words of an account. -/
def acW : Nat → ByteArray
  | 0 => ⟨#[112, 97, 103, 101, 115]⟩
  | 1 => ⟨#[109, 97, 112, 112, 101, 100]⟩
  | 2 => ⟨#[102, 114, 97, 109, 101, 115]⟩
  | 3 => ⟨#[104, 101, 108, 100]⟩
  | 4 => ⟨#[108, 105, 118, 101]⟩
  | 5 => ⟨#[99, 97, 99, 104, 101, 100]⟩
  | 6 => ⟨#[115, 116, 97, 108, 101]⟩
  | 7 => ⟨#[112, 111, 115, 116, 101, 100]⟩
  | _ => ⟨#[]⟩
theorem acW_size (k : Nat) : (acW k).size ≤ 6 := by
  unfold acW
  split <;> decide
def acE (z : List Int) (k : Nat) : ByteArray := acW k ++ ((⟨#[32]⟩ : ByteArray) ++ It (gI z k))
/-- The text when k words have been written. -/
def acS (z : List Int) : Nat → ByteArray
  | 0 => ⟨#[]⟩
  | k + 1 => ((if k = 0 then acS z k else acS z k ++ ⟨#[32]⟩) ++ acW k ++ ⟨#[32]⟩) ++ It (gI z k)
theorem acS_size (z : List Int) (hz : ∀ j, -9223372036854775808 ≤ gI z j ∧ gI z j ≤ 9223372036854775807) (k : Nat) : (acS z k).size ≤ k * 30 := by
  induction k with
  | zero => exact Nat.zero_le _
  | succ k ih =>
    have h1 := acW_size k
    have h2 := It_size (hz k).1 (hz k).2
    have h3 : (⟨#[32]⟩ : ByteArray).size = 1 := rfl
    simp only [acS]
    split <;> (simp only [ByteArray.size_append, h3]; omega)
/-- The words as cells, the first k of them written. -/
def wArr (z : List Int) (k : Nat) : Array Value := ((List.range 8).map fun i => Value.string (if i < k then acE z i else acW i)).toArray
def lArr (z : List Int) : Array Value := ((List.range 8).map fun i => I (gI z i)).toArray
theorem wArr_lt (z : List Int) (k j : Nat) (h : j < 8) (hk : j < k) : (wArr z k)[j]? = some (.string (acE z j)) := by simp [wArr, h, hk]
theorem wArr_ge (z : List Int) (k j : Nat) (h : j < 8) (hk : ¬ j < k) : (wArr z k)[j]? = some (.string (acW j)) := by simp [wArr, h, hk]
theorem lArr_get (z : List Int) (j : Nat) (h : j < 8) : (lArr z)[j]? = some (I (gI z j)) := by simp [lArr, h]
theorem wArr_set (z : List Int) (k : Nat) (h : k < 8) : (wArr z k).setIfInBounds k (.string (acE z k)) = wArr z (k + 1) := by
  apply Array.ext_getElem?
  intro j
  rw [Array.getElem?_setIfInBounds]
  by_cases hj : k = j
  · subst hj
    rw [if_pos rfl, wArr_lt z (k + 1) k h (by omega)]
    simp [wArr, h]
  · rw [if_neg hj]
    by_cases h8 : j < 8
    · by_cases hjk : j < k
      · rw [wArr_lt z k j h8 hjk, wArr_lt z (k + 1) j h8 (by omega)]
      · rw [wArr_ge z k j h8 hjk, wArr_ge z (k + 1) j h8 (by omega)]
    · simp [wArr, h8]
theorem two_keep {w u u' : World} {g g' i i' : Nat} {x y : Value} (h : u.cell? ⟨g, i, none⟩ = some x ∧ u.cell? ⟨g', i', none⟩ = some y ∧ Below w.heap.size w u) (hb : Below u.heap.size u u') :
    u'.cell? ⟨g, i, none⟩ = some x ∧ u'.cell? ⟨g', i', none⟩ = some y ∧ Below w.heap.size w u' := by
  obtain ⟨h1, h2, h3⟩ := h
  exact ⟨(hb.cell (p := ⟨g, i, none⟩) (World.block_lt_of_cell? u _ h1)).trans h1, (hb.cell (p := ⟨g', i', none⟩) (World.block_lt_of_cell? u _ h2)).trans h2, h3.trans (hb.mono h3.size)⟩
theorem two_last {w u : World} {p q : Prop} (h : p ∧ q ∧ Below w.heap.size w u) : Below w.heap.size w u := h.2.2

set_option maxHeartbeats 4000000 in
/-- The elements of the joined list. -/
def xsL (z : List Int) : List ByteArray := [acE z 0, acE z 1, acE z 2, acE z 3, acE z 4, acE z 5, acE z 6, acE z 7]
theorem xsL_get (z : List Int) (j : Nat) (x : ByteArray) (h : (xsL z)[j]? = some x) : j < 8 ∧ x = acE z j := by
  rcases (show j = 0 ∨ j = 1 ∨ j = 2 ∨ j = 3 ∨ j = 4 ∨ j = 5 ∨ j = 6 ∨ j = 7 ∨ 8 ≤ j by omega) with rfl | rfl | rfl | rfl | rfl | rfl | rfl | rfl | hj
  iterate 8 exact ⟨by omega, by simp [xsL] at h; exact h.symm⟩
  rw [List.getElem?_eq_none (by simpa [xsL] using hj)] at h; cases h
theorem joined (z : List Int) : (⟨(Lib.join ((xsL z).map (·.data.toList)) (⟨#[32]⟩ : ByteArray).data.toList).toArray⟩ : ByteArray) = acS z 8 := by
  apply ByteArray.ext
  simp [xsL, Lib.join_cons, Lib.joinTail, acS, acE, ByteArray.data_append]
theorem join_len (z : List Int) (hz : ∀ j, -9223372036854775808 ≤ gI z j ∧ gI z j ≤ 9223372036854775807) : (Lib.join ((xsL z).map (·.data.toList)) (⟨#[32]⟩ : ByteArray).data.toList).length ≤ 240 := by
  have h := acS_size z hz 8
  rw [← joined z] at h
  exact h
set_option maxHeartbeats 4000000 in
theorem accImpl_any (z : List Int) (w : World) (hz : ∀ j, -9223372036854775808 ≤ gI z j ∧ gI z j ≤ 9223372036854775807) (ht : Tab w) :
    Calls Tryz.prog 7 #[.agg #[I (gI z 0), I (gI z 1), I (gI z 2), I (gI z 3), I (gI z 4), I (gI z 5), I (gI z 6), I (gI z 7)]] w fun e w' => e = .returned (.string (acS z 8)) ∧ Below w.heap.size w w' := by
  have Hz := Lib.hid hz
  have Ht := Lib.hid ht
  clear hz ht
  go_enter Tryz.func7, Tryz.ntmps7
  go_wp2
  go_loopw [25] (fun i wr => ∃ k : Nat, k ≤ 8 ∧ i = .int .i64 k ∧ Blk wr (w.heap.size + 1) 9 (wArr z k) ∧ Blk wr (w.heap.size + 2) 3 (lArr z) ∧ Below w.heap.size w wr) (fun i _ => 8 - (intOf i).toNat)
  case atStart => exact ⟨0, by omega, rfl, (blk_new' _ _ _ (by simp)).alloc _, blk_new' _ _ _ (by simp), by go_grown⟩
  case round =>
    obtain ⟨k, hk, rfl, hw, hl, hb⟩ := hrel
    have Hw := Lib.hid hw
    have Hb := Lib.hid hb
    have hsz := hb.size
    by_cases hlt : k < 8
    · have hws := acW_size k
      have his := It_size (Hz.out k).1 (Hz.out k).2
      have g1 := (hw.cell k).trans (wArr_ge z k k hlt (by omega))
      have f1 : wr.frozen? ⟨w.heap.size + 1, k, none⟩ = false := hw.frozen k
      have g2 := (hl.cell k).trans (lArr_get z k hlt)
      have Hl := Lib.hid hl
      have z1 := (Hz.out k).1
      have z2 := (Hz.out k).2
      have i1 : (k : Int) < 8 := by omega
      have i0 : (0 : Int) ≤ (k : Int) := by omega
      have hgl := hw.lt
      clear hw hl hb
      go_wp2_with fail
      go_region_with ((first | (go_at_call 14; refine (it_impl _ _ z1 z2 (tab_below Ht.out (by first | exact Hb.out.drew | exact Hb.out))).mono ?_; rintro e w5 ⟨rfl, hbb⟩; have q1 := (hbb.cell (p := ⟨w.heap.size + 1, k, none⟩) hgl).trans g1; have q2 := (hbb.frozen (p := ⟨w.heap.size + 1, k, none⟩) hgl).trans f1; have Hbb : Hid (Below wr.heap.size wr w5) := (Below.refl _ _).drew.trans hbb; clear hbb)))
      all_goals
        go_wp2
        go_roundw
        case rel => exact ⟨k + 1, by omega, by go_num, by rw [← wArr_set z k hlt]; exact (Hw.out.below Hbb.out hgl).set_ k _, (Hl.out.below Hbb.out Hl.out.lt).far (by simp) _, (Hb.out.trans (Hbb.out.mono hsz)).setCell (by simp) _⟩
        case measure => simp [intOf]; omega
    · obtain rfl : k = 8 := by omega
      have hgl := hw.lt
      have hcs : ∀ (j : Nat) x, (xsL z)[j]? = some x → wr.cell? ⟨w.heap.size + 1, 0 + j, none⟩ = some (.string x) := fun j x hx => by
        obtain ⟨hj, rfl⟩ := xsL_get z j x hx
        rw [Nat.zero_add, hw.cell]
        exact wArr_lt z 8 j hj hj
      have hjl := join_len z Hz.out
      have Hcs := Lib.hid hcs
      have Hjl := Lib.hid hjl
      clear hw hl hb hcs hjl
      go_wp2_with fail
      refine (Tryz.strings_Join (w.heap.size + 1) 0 8 (xsL z) ⟨#[32]⟩ _ Hcs.out hgl (by simp [xsL]) (by simp [xsL]) (Nat.le_trans Hjl.out (by decide))).mono ?_
      rintro e w5 ⟨rfl, hb5⟩
      have Hb5 := Lib.hid (Hb.out.trans (hb5.mono hsz))
      clear hb5
      go_wp2
      go_ret
      exact ⟨ret_str (joined z), Hb5.out⟩
end Go.Proofs.YtifeilefdakapaaGreatDoor.Fa
