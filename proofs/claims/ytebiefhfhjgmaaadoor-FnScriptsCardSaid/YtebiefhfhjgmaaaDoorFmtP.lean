/- Plain facts on the text of an act. -/
import Derived.Test.YtebiefhfhjgmaaaDoorActP
import Derived.Test.YtebiefhfhjgmaaaDoorMem
import Derived.Lib.ItoaLen
namespace Go.Proofs.YtebiefhfhjgmaaaDoor.Fp
set_option maxRecDepth 100000
open Go Ac Mm

/-- The act z (five numbers) has a text, as kind k. -/
def Okz (z : List Int) (k : Nat) : Prop := 1 ≤ k ∧ k ≤ 10 ∧ gI z 0 = (k : Int) ∧ (∀ i ∈ idx k, 0 ≤ gI z i ∧ gI z i ≤ 1000000000) ∧ ∀ i, i < 5 → i ≠ 0 → i ∉ idx k → gI z i = 0
def pre (k : Nat) (z : List Int) (q : Nat) : List UInt8 := (word k).data.toList ++ ((idx k).take q).flatMap fun i => 32 :: Lib.itoa (gI z i)
/-- The text when q fields have been written. -/
def strP (k : Nat) (z : List Int) (q : Nat) : ByteArray := ⟨(pre k z q).toArray⟩
def text (k : Nat) (z : List Int) : ByteArray := strP k z (idx k).length
theorem strP_zero (k : Nat) (z : List Int) : strP k z 0 = word k := by
  unfold strP pre
  apply ByteArray.ext
  simp
theorem word_size (k : Nat) : (word k).size ≤ 7 := by
  unfold word
  split <;> decide
theorem strP_step (k : Nat) (z : List Int) (q i : Nat) (h : (idx k)[q]? = some i) : strP k z q ++ ((⟨#[32]⟩ : ByteArray) ++ ⟨(Lib.itoa (gI z i)).toArray⟩) = strP k z (q + 1) := by
  have hq : q < (idx k).length := by
    rcases Nat.lt_or_ge q (idx k).length with h1 | h1
    · exact h1
    · rw [List.getElem?_eq_none h1] at h; cases h
  have e : (idx k).take (q + 1) = (idx k).take q ++ [i] := by
    rw [List.take_succ_eq_append_getElem hq]
    rw [List.getElem?_eq_getElem hq] at h
    injection h with h
    rw [h]
  unfold strP pre
  rw [e]
  apply ByteArray.ext
  simp [ByteArray.data_append]
theorem strP_step' (k : Nat) (z : List Int) (q i : Nat) (h : (idx k)[q]? = some i) : (strP k z q ++ (⟨#[32]⟩ : ByteArray)) ++ ⟨(Lib.itoa (gI z i)).toArray⟩ = strP k z (q + 1) := by
  rw [← strP_step k z q i h]
  apply ByteArray.ext
  simp [ByteArray.data_append]
theorem flat_len (l : List Nat) (z : List Int) (h : ∀ i ∈ l, 0 ≤ gI z i ∧ gI z i ≤ 1000000000) : (l.flatMap fun i => 32 :: Lib.itoa (gI z i)).length ≤ l.length * 22 := by
  induction l with
  | nil => simp
  | cons a t ih =>
    have h1 := ih fun i hi => h i (by simp [hi])
    have h2 := h a (by simp)
    have h3 := Lib.itoa_length_le (gI z a) (by omega) (by omega)
    simp only [List.flatMap_cons, List.length_append, List.length_cons]
    omega
theorem strP_size (k : Nat) (z : List Int) (q : Nat) (h : ∀ i ∈ (idx k).take q, 0 ≤ gI z i ∧ gI z i ≤ 1000000000) : (strP k z q).size ≤ 100 := by
  have h1 := flat_len _ z h
  have h2 := word_size k
  have h3 := idx_len k
  have h4 : ((idx k).take q).length ≤ (idx k).length := by rw [List.length_take]; omega
  have e : (word k).data.toList.length = (word k).size := rfl
  have e2 : (strP k z q).size = (pre k z q).length := rfl
  rw [e2]
  unfold pre
  rw [List.length_append, e]
  omega
theorem okz_inj {z : List Int} {i j : Nat} (hi : Okz z i) (hj : Okz z j) : i = j := by
  have := hi.2.2.1.symm.trans hj.2.2.1
  omega
/-- The box of the act z when the first q fields of kind k have been set to 0. -/
def zq (z : List Int) (k : Nat) : Nat → List Int
  | 0 => [gI z 0, gI z 1, gI z 2, gI z 3, gI z 4]
  | q + 1 => (zq z k q).set ((idx k).getD q 0) 0
theorem zq_len (z : List Int) (k q : Nat) : (zq z k q).length = 5 := by
  induction q with
  | zero => rfl
  | succ q ih => simp [zq, ih]
theorem gI_set (l : List Int) (i j : Nat) (hi : i < l.length) : gI (l.set i 0) j = if i = j then 0 else gI l j := by
  unfold gI List.getD
  rw [List.getElem?_set]
  by_cases h : i = j
  · subst h; simp [hi]
  · simp [h]
theorem gI_zero (z : List Int) (j : Nat) (h : j < 5) : gI [gI z 0, gI z 1, gI z 2, gI z 3, gI z 4] j = gI z j := by
  rcases (show j = 0 ∨ j = 1 ∨ j = 2 ∨ j = 3 ∨ j = 4 by omega) with rfl | rfl | rfl | rfl | rfl <;> rfl
theorem zq_gI (z : List Int) (k q j : Nat) (hj : j < 5) (hq : q ≤ (idx k).length) : gI (zq z k q) j = if j ∈ (idx k).take q then 0 else gI z j := by
  induction q with
  | zero => simp only [zq, List.take_zero, List.not_mem_nil, if_false]; exact gI_zero z j hj
  | succ q ih =>
    have hlt : q < (idx k).length := by omega
    have hi : (idx k).getD q 0 = (idx k)[q] := by simp [List.getD, hlt]
    have h5 : (idx k)[q] < 5 := idx_lt k _ (List.getElem_mem _)
    rw [List.take_succ_eq_append_getElem hlt]
    simp only [zq, hi]
    rw [gI_set _ _ _ (by rw [zq_len]; exact h5), ih (by omega)]
    by_cases e : (idx k)[q] = j
    · simp [e]
    · rw [if_neg e]
      simp only [List.mem_append, List.mem_singleton, Ne.symm e, or_false]
theorem idx_nodup (k : Nat) : (idx k).Nodup := by
  unfold idx
  split <;> decide
theorem zq_at (z : List Int) (k q i : Nat) (h : (idx k)[q]? = some i) : gI (zq z k q) i = gI z i := by
  have hq : q < (idx k).length := by
    rcases Nat.lt_or_ge q (idx k).length with h1 | h1
    · exact h1
    · rw [List.getElem?_eq_none h1] at h; cases h
  rw [List.getElem?_eq_getElem hq] at h
  injection h with h
  have h5 : i < 5 := by rw [← h]; exact idx_lt k _ (List.getElem_mem _)
  rw [zq_gI z k q i h5 (by omega), if_neg]
  intro hm
  have hn := idx_nodup k
  rw [← List.take_append_drop q (idx k)] at hn
  have hd : i ∈ (idx k).drop q := by
    rw [List.drop_eq_getElem_cons hq, h]
    simp
  exact (List.nodup_append.1 hn).2.2 i hm i hd rfl
theorem idx_pos (k : Nat) : ∀ i ∈ idx k, i ≠ 0 := by
  unfold idx
  split <;> simp
end Go.Proofs.YtebiefhfhjgmaaaDoor.Fp
