/- Plain facts: a journal that holds the records of acts is read as those acts. -/
import Derived.Test.YtebiefhfhjgmaaaDoorRound
namespace Go.Proofs.YtebiefhfhjgmaaaDoor.Rd
set_option maxRecDepth 100000
open Go Ac Mm Tx Sp Fp Jr Ja

theorem okz_zn {z : List Int} {k : Nat} (h : Okz z k) : Okz (zn z) k :=
  ⟨h.1, h.2.1, by rw [zn_gI z 0 (by decide)]; exact h.2.2.1, fun i hi => by rw [zn_gI z i (idx_lt k i hi)]; exact h.2.2.2.1 i hi, fun i hi h0 hn => by rw [zn_gI z i hi]; exact h.2.2.2.2 i hi h0 hn⟩
theorem zn_zn (z : List Int) : zn (zn z) = zn z := rfl
/-- A record without its last byte, as bytes. -/
def rb (t : ByteArray) : List UInt8 := t.data.toList ++ 47 :: Lib.itoa (Sm.sumL t.data.toList)
theorem mk_list (t : ByteArray) : (mk t).data.toList = rb t ++ [59] := by unfold mk rb; simp [ByteArray.data_append]
theorem mk_len (t : ByteArray) : (mk t).size = (rb t).length + 1 := by
  have : (mk t).data.toList.length = (mk t).size := rfl
  rw [← this, mk_list]; simp
theorem rb_bytes {k : Nat} {z : List Int} (h : Okz z k) : (59 : UInt8) ∉ rb (text k z) := by
  intro hc
  unfold rb at hc
  rcases List.mem_append.1 hc with hc | hc
  · rcases text_bytes h 59 hc with h1 | h1 | h1 <;> revert h1 <;> decide
  · rcases List.mem_cons.1 hc with hc | hc
    · revert hc; decide
    · have := itoa_dig (Sm.sumL_bd (text k z).data.toList).1 59 hc
      revert this; decide
theorem rec_text {k : Nat} {z : List Int} (h : Okz z k) (hz : zn z = z) (r : ByteArray) (hr : r.data.toList = rb (text k z)) : Rec r z := by
  have hlen : r.size = (text k z).size + (1 + (Lib.itoa (Sm.sumL (text k z).data.toList)).length) := by
    have h1 : r.data.toList.length = r.size := rfl
    have h2 : (text k z).data.toList.length = (text k z).size := rfl
    rw [← h1, hr, rb, List.length_append, h2, List.length_cons]; omega
  have hl2 : (text k z).data.toList.length = (text k z).size := rfl
  refine ⟨(text k z).size, text k z, ⟨by omega, ?_, fun j hj hc => ?_⟩, ?_, .inl ⟨k, h, rfl, rfl⟩, ?_⟩
  · rw [← Array.getElem?_toList, hr, rb, List.getElem?_append_right (by omega), hl2, Nat.sub_self]; rfl
  · rw [← Array.getElem?_toList, hr, rb, List.getElem?_append_left (by omega)] at hc
    rcases text_bytes h 47 (List.mem_of_getElem? hc) with h1 | h1 | h1 <;> revert h1 <;> decide
  · have e : r.extract 0 (text k z).size = text k z := by
      apply ByteArray.ext
      apply Array.ext'
      rw [ext_list, hr, rb, List.drop_zero, Nat.sub_zero, ← hl2, List.take_left]
    rw [e]
    have := isAct_text h
    rwa [hz] at this
  · apply ByteArray.ext
    apply Array.ext'
    rw [mk_list, ByteArray.data_append, Array.toList_append, hr]
/-- From the place where a record begins, it is read. -/
theorem step_mk {s : ByteArray} {pre post : List UInt8} {k : Nat} {z : List Int} (h : Okz z k) (hz : zn z = z) (hs : s.data.toList = pre ++ (mk (text k z)).data.toList ++ post) : Step s pre.length z (pre.length + (mk (text k z)).size) := by
  rw [mk_list] at hs
  have hsl : s.data.toList.length = s.size := rfl
  have hlen : pre.length + (rb (text k z)).length < s.size := by rw [← hsl, hs]; simp
  refine ⟨pre.length + (rb (text k z)).length, by omega, by rw [mk_len]; omega, hlen, ?_, fun j h1 h2 hc => ?_, ?_⟩
  · rw [← Array.getElem?_toList, hs, List.append_assoc, List.append_assoc, List.getElem?_append_right (by omega), List.getElem?_append_right (by omega)]
    have : pre.length + (rb (text k z)).length - pre.length - (rb (text k z)).length = 0 := by omega
    rw [this]; rfl
  · rw [← Array.getElem?_toList, hs, List.append_assoc, List.append_assoc, List.getElem?_append_right h1, List.getElem?_append_left (by omega)] at hc
    exact rb_bytes h (List.mem_of_getElem? hc)
  · refine rec_text h hz _ ?_
    rw [ext_list, hs, List.append_assoc, List.append_assoc, List.drop_left, Nat.add_sub_cancel_left, List.take_left]
theorem stop_none {s : ByteArray} {b : Nat} (h : ∀ j, b ≤ j → j < s.size → s.data[j]? ≠ some 59) : Stop s b := fun _ _ ⟨i, h1, _, h2, h3, _⟩ => h i h1 h2 h3
/-- The journal of one act. -/
theorem jof_one {k : Nat} {z : List Int} (h : Okz z k) (hz : zn z = z) : JOf (mk (text k z)) [z] (mk (text k z)).size := by
  have h1 := mk_size (text k z)
  have h2 : (text k z).size ≤ 100 := strP_size k z _ (by rw [List.take_of_length_le (Nat.le_refl _)]; exact h.2.2.2.1)
  refine .inr ⟨by omega, ⟨_, step_mk (pre := []) (post := []) h hz (by simp), by simp [Chain]⟩, stop_none fun j a b => by omega⟩
theorem sum_mesh : Sm.sumL (⟨#[109, 101, 115, 104]⟩ : ByteArray).data.toList = 6994 := by decide +kernel
end Go.Proofs.YtebiefhfhjgmaaaDoor.Rd
