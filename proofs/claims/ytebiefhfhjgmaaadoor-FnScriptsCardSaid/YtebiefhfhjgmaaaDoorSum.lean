/- The two SumOf functions return the same sum: the contracts of spec.SumOf and impl.SumOf, for every string of at most 2^20 bytes. -/
import Derived.Test.YtebiefhfhjgmaaaDoorRows
import Derived.WalkKit
namespace Go.Proofs.YtebiefhfhjgmaaaDoor.Sm
set_option maxRecDepth 100000
open Go.RowKit

theorem ret_int {k : IntKind} {a b : Int} (h : a = b) : Ending.returned (.int k a) = .returned (.int k b) := by rw [h]
def sumL (l : List UInt8) : Int := l.foldl (fun s c => (31 * s + (c.toNat : Int)) % 9973) 0
theorem sumL_bd (l : List UInt8) : 0 ≤ sumL l ∧ sumL l < 9973 := by
  unfold sumL
  rcases List.eq_nil_or_concat l with rfl | ⟨l', c, rfl⟩
  · simp
  · rw [List.concat_eq_append, List.foldl_append]; simp only [List.foldl_cons, List.foldl_nil]; omega
theorem take_snoc (s : ByteArray) (k : Nat) (h : k < s.size) : s.data.toList.take (k + 1) = s.data.toList.take k ++ [s[k]] := by
  rw [List.take_succ_eq_append_getElem (by simpa using h)]; rfl
theorem sumL_snoc (l : List UInt8) (c : UInt8) : sumL (l ++ [c]) = (31 * sumL l + (c.toNat : Int)) % 9973 := by
  unfold sumL; rw [List.foldl_append]; rfl
set_option maxHeartbeats 400000 in
theorem spec_any (s : ByteArray) (w : World) (hs : s.size ≤ maxLen) :
    Calls Tryd.prog 63 #[.string s] w fun e w' => e = .returned (.int .i64 (sumL s.data.toList)) ∧ w = w' := by
  unfold maxLen at hs
  go_enter Tryd.func63, Tryd.ntmps63
  go_wp2
  go_loop [3, 4] (fun n i => ∃ k : Nat, k ≤ s.size ∧ i = .int .i64 k ∧ n = .int .i64 (sumL (s.data.toList.take k))) (fun _ i => s.size - (intOf i).toNat)
  case atStart => exact ⟨0, Nat.zero_le _, rfl, rfl⟩
  case round =>
    obtain ⟨k, hk, rfl, rfl⟩ := hrel
    have hd := sumL_bd (s.data.toList.take k)
    by_cases hlt : k < s.size
    · have hsn := sumL_snoc (s.data.toList.take k) s[k]
      have hts := take_snoc s k hlt
      have hb : (s[k].toNat : Int) < 256 := by have := s[k].toNat_lt; omega
      have HS : Hid (sumL (s.data.toList.take (k + 1)) = (31 * sumL (s.data.toList.take k) + (s[k].toNat : Int)) % 9973) := by rw [hts]; exact hsn
      clear hsn hts
      go_wp2
      go_round
      case rel => exact ⟨k + 1, by omega, by go_num, by rw [HS.out]⟩
      case measure => simp [intOf]; omega
    · go_wp2
      go_ret
      exact ⟨ret_int (by rw [List.take_of_length_le (by simp; omega)]), rfl⟩
set_option maxHeartbeats 400000 in
theorem impl_any (s : ByteArray) (w : World) (hs : s.size ≤ maxLen) :
    Calls Tryd.prog 43 #[.string s] w fun e w' => e = .returned (.int .i64 (sumL s.data.toList)) ∧ w = w' := by
  unfold maxLen at hs
  go_enter Tryd.func43, Tryd.ntmps43
  go_wp2
  go_loop [3, 4] (fun n i => ∃ k : Nat, k ≤ s.size ∧ i = .int .i64 k ∧ n = .int .i64 (sumL (s.data.toList.take k))) (fun _ i => s.size - (intOf i).toNat)
  case atStart => exact ⟨0, Nat.zero_le _, rfl, rfl⟩
  case round =>
    obtain ⟨k, hk, rfl, rfl⟩ := hrel
    have hd := sumL_bd (s.data.toList.take k)
    by_cases hlt : k < s.size
    · have hsn := sumL_snoc (s.data.toList.take k) s[k]
      have hts := take_snoc s k hlt
      have hb : (s[k].toNat : Int) < 256 := by have := s[k].toNat_lt; omega
      have HS : Hid (sumL (s.data.toList.take (k + 1)) = (31 * sumL (s.data.toList.take k) + (s[k].toNat : Int)) % 9973) := by rw [hts]; exact hsn
      clear hsn hts
      go_wp2
      go_round
      case rel => exact ⟨k + 1, by omega, by go_num, by rw [HS.out]⟩
      case measure => simp [intOf]; omega
    · go_wp2
      go_ret
      exact ⟨ret_int (by rw [List.take_of_length_le (by simp; omega)]), rfl⟩
end Go.Proofs.YtebiefhfhjgmaaaDoor.Sm
