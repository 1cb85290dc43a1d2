/- Ranges, classes, bits of a slot map: what the small functions of both sides hand back. -/
import Derived.Test.YtifeilefdakapaaGreatDoorKPMem
import Derived.WalkLawsBesides
import Derived.Laws.BitsLemmas
namespace Go.Proofs.YtifeilefdakapaaGreatDoor.Bt
open Go.RowKit Mm

/-- n lies in the range lo to hi. -/
def btw (n lo hi : Int) : Bool := decide (lo ≤ n ∧ n ≤ hi)
theorem btw_yes {n lo hi : Int} (h1 : lo ≤ n) (h2 : n ≤ hi) : btw n lo hi = true := decide_eq_true ⟨h1, h2⟩
theorem btw_no {n lo hi : Int} (h : ¬ (lo ≤ n ∧ n ≤ hi)) : btw n lo hi = false := decide_eq_false h
theorem btw_iff {n lo hi : Int} : btw n lo hi = true ↔ lo ≤ n ∧ n ≤ hi := decide_eq_true_iff
theorem btw_of {n lo hi : Int} {b : Bool} (h : btw n lo hi = b) : (b = true ∧ lo ≤ n ∧ n ≤ hi) ∨ (b = false ∧ ¬ (lo ≤ n ∧ n ≤ hi)) := by
  subst h
  by_cases h : lo ≤ n ∧ n ≤ hi
  · exact .inl ⟨btw_yes h.1 h.2, h⟩
  · exact .inr ⟨btw_no h, h⟩
theorem between_any (n lo hi : Int) (w : World) :
    Calls Tryz.prog 42 #[.int .i64 n, .int .i64 lo, .int .i64 hi] w fun e w' => e = .returned (.bool (btw n lo hi)) ∧ w = w' := by
  by_cases h1 : lo ≤ n
  · by_cases h2 : n ≤ hi
    · have e := btw_yes h1 h2
      go_enter Tryz.func42, Tryz.ntmps42
      go_wp2
      go_ret
      exact ⟨ret_bool e.symm, rfl⟩
    · have e := btw_no (n := n) (lo := lo) (hi := hi) (by omega)
      have h3 : decide (n ≤ hi) = false := decide_eq_false h2
      have h4 : decide (lo ≤ n) = true := decide_eq_true h1
      clear h2
      go_enter Tryz.func42, Tryz.ntmps42
      go_wp2
      go_ret
      exact ⟨ret_bool e.symm, rfl⟩
  · have e := btw_no (n := n) (lo := lo) (hi := hi) (by omega)
    have h4 : decide (lo ≤ n) = false := decide_eq_false h1
    clear h1
    go_enter Tryz.func42, Tryz.ntmps42
    go_wp2
    go_ret
    exact ⟨ret_bool e.symm, rfl⟩
theorem in_any (n lo hi : Int) (w : World) :
    Calls Tryz.prog 92 #[.int .i64 n, .int .i64 lo, .int .i64 hi] w fun e w' => e = .returned (.bool (btw n lo hi)) ∧ w = w' := by
  by_cases h1 : lo ≤ n
  · by_cases h2 : n ≤ hi
    · have e := btw_yes h1 h2
      go_enter Tryz.func92, Tryz.ntmps92
      go_wp2
      go_ret
      exact ⟨ret_bool e.symm, rfl⟩
    · have e := btw_no (n := n) (lo := lo) (hi := hi) (by omega)
      have h3 : decide (n ≤ hi) = false := decide_eq_false h2
      have h4 : decide (lo ≤ n) = true := decide_eq_true h1
      clear h2
      go_enter Tryz.func92, Tryz.ntmps92
      go_wp2
      go_ret
      exact ⟨ret_bool e.symm, rfl⟩
  · have e := btw_no (n := n) (lo := lo) (hi := hi) (by omega)
    have h4 : decide (lo ≤ n) = false := decide_eq_false h1
    clear h1
    go_enter Tryz.func92, Tryz.ntmps92
    go_wp2
    go_ret
    exact ⟨ret_bool e.symm, rfl⟩

/-- The size of a class, and its number of slots. -/
def csz (c : Int) : Int := if c = 0 then 1 else if c = 1 then 2 else if c = 2 then 4 else if c = 3 then 8 else 0
def slots (c : Int) : Int := if c = 0 then 16 else if c = 1 then 8 else if c = 2 then 4 else if c = 3 then 2 else 0
theorem cls (c : Int) : c = 0 ∨ c = 1 ∨ c = 2 ∨ c = 3 ∨ (¬ (0 ≤ c ∧ c ≤ 3)) := by omega
theorem slots_no {c : Int} (h : ¬ (0 ≤ c ∧ c ≤ 3)) : slots c = 0 := by unfold slots; rw [if_neg (by omega), if_neg (by omega), if_neg (by omega), if_neg (by omega)]
theorem csz_no {c : Int} (h : ¬ (0 ≤ c ∧ c ≤ 3)) : csz c = 0 := by unfold csz; rw [if_neg (by omega), if_neg (by omega), if_neg (by omega), if_neg (by omega)]
theorem slots_spec (c : Int) (w : World) :
    Calls Tryz.prog 236 #[.int .i64 c] w fun e w' => e = .returned (.int .i64 (slots c)) ∧ w = w' := by
  rcases cls c with rfl | rfl | rfl | rfl | h
  iterate 4
    go_enter Tryz.func236, Tryz.ntmps236
    go_wp2_with (first | (go_at_call 92; go_in) | fail)
    go_ret
    exact ⟨ret_int rfl, rfl⟩
  have e := btw_no h
  have e2 := Lib.hid (slots_no h)
  clear h
  go_enter Tryz.func236, Tryz.ntmps236
  go_wp2_with fail
  refine (in_any _ _ _ _).mono ?_
  rintro e w' ⟨rfl, rfl⟩
  go_wp2
  go_ret
  exact ⟨ret_int e2.out.symm, rfl⟩
theorem clsOk_any (c : Int) (w : World) :
    Calls Tryz.prog 53 #[.int .i64 c] w fun e w' => e = .returned (.bool (btw c 0 3)) ∧ w = w' := by
  go_enter Tryz.func53, Tryz.ntmps53
  go_wp2_with fail
  refine (between_any _ _ _ _).mono ?_
  rintro e w' ⟨rfl, rfl⟩
  go_wp2
  go_ret
  exact ⟨rfl, rfl⟩
theorem csz_impl (c : Int) (w : World) :
    Calls Tryz.prog 22 #[.int .i64 c] w fun e w' => e = .returned (.int .i64 (csz c)) ∧ w = w' := by
  rcases cls c with rfl | rfl | rfl | rfl | h
  iterate 4
    go_enter Tryz.func22, Tryz.ntmps22
    go_wp2_with (first | (go_at_call 53; go_in) | (go_at_call 42; go_in) | fail)
    go_ret
    exact ⟨ret_int rfl, rfl⟩
  have e := btw_no h
  have e2 := Lib.hid (csz_no h)
  clear h
  go_enter Tryz.func22, Tryz.ntmps22
  go_wp2_with fail
  refine (clsOk_any _ _).mono ?_
  rintro e w' ⟨rfl, rfl⟩
  go_wp2
  go_ret
  exact ⟨ret_int e2.out.symm, rfl⟩
theorem slots_impl (c : Int) (w : World) :
    Calls Tryz.prog 28 #[.int .i64 c] w fun e w' => e = .returned (.int .i64 (slots c)) ∧ w = w' := by
  rcases cls c with rfl | rfl | rfl | rfl | h
  iterate 4
    go_enter Tryz.func28, Tryz.ntmps28
    go_wp2_with (first | (go_at_call 53; go_in) | (go_at_call 42; go_in) | (go_at_call 22; go_in) | fail)
    go_ret
    exact ⟨ret_int rfl, rfl⟩
  have e := btw_no h
  have e2 := Lib.hid (slots_no h)
  clear h
  go_enter Tryz.func28, Tryz.ntmps28
  go_wp2_with fail
  refine (clsOk_any _ _).mono ?_
  rintro e w' ⟨rfl, rfl⟩
  go_wp2
  go_ret
  exact ⟨ret_int e2.out.symm, rfl⟩

/-- Does the map b have slot i? -/
def hasS (b i : Int) : Bool := decide (0 ≤ b ∧ 0 ≤ i ∧ i ≤ 15 ∧ b / 2 ^ i.toNat % 2 = 1)
theorem wraps_i64 (n : Int) (h₀ : 0 ≤ n) (h₁ : n < 2 ^ 63) : IntKind.i64.wrap n = n := by rw [IntKind.wrap_i64]; omega
theorem and1 (x : Int) (h0 : 0 ≤ x) (h1 : x ≤ 9223372036854775807) : bits .and .i64 x 1 = x % 2 := by
  have h := bits_mask .i64 63 (by decide) wraps_i64 1 (by decide) x h0 (by omega)
  simpa using h
theorem shr_bd (b : Int) (n : Nat) (h0 : 0 ≤ b) (h1 : b ≤ 9223372036854775807) : 0 ≤ b / 2 ^ n ∧ b / 2 ^ n ≤ 9223372036854775807 := by
  have hp : (0 : Int) < 2 ^ n := Int.pow_pos (by decide)
  exact ⟨Int.ediv_nonneg h0 (by omega), Int.le_trans (Int.ediv_le_self _ h0) h1⟩
theorem hasS_no {b i : Int} (h : ¬ (0 ≤ b ∧ 0 ≤ i ∧ i ≤ 15)) : hasS b i = false := decide_eq_false (fun k => h ⟨k.1, k.2.1, k.2.2.1⟩)
theorem hasS_bit {b i : Int} (h : 0 ≤ b ∧ 0 ≤ i ∧ i ≤ 15) : hasS b i = (b / 2 ^ i.toNat % 2 == 1) := by
  unfold hasS
  by_cases e : b / 2 ^ i.toNat % 2 = 1
  · rw [decide_eq_true ⟨h.1, h.2.1, h.2.2, e⟩, e]; rfl
  · rw [decide_eq_false (fun k => e k.2.2.2), beq_eq_false_iff_ne.2 e]
theorem bit_and {b : Int} {n : Nat} {v : Bool} (h0 : 0 ≤ b) (h1 : b ≤ 9223372036854775807) (h : (b / 2 ^ n % 2 == 1) = v) : (bits .and .i64 (b / 2 ^ n) 1 == 1) = v := by
  rw [and1 _ (shr_bd b n h0 h1).1 (shr_bd b n h0 h1).2]; exact h
theorem has_spec (b i : Int) (w : World) (hb : b ≤ 9223372036854775807) :
    Calls Tryz.prog 251 #[.int .i64 b, .int .i64 i] w fun e w' => e = .returned (.bool (hasS b i)) ∧ w = w' := by
  by_cases h : 0 ≤ b ∧ 0 ≤ i ∧ i ≤ 15
  · have e := Lib.hid (hasS_bit h)
    obtain ⟨v, hv⟩ : ∃ v, (b / 2 ^ i.toNat % 2 == 1) = v := ⟨_, rfl⟩
    have hx := bit_and h.1 hb hv
    have hV := Lib.hid hv
    obtain ⟨h1, h2, h3⟩ := h
    clear hv
    go_enter Tryz.func251, Tryz.ntmps251
    go_wp2_with (first | (go_at_call 271; go_in) | (go_at_call 92; go_in) | fail)
    go_ret
    exact ⟨ret_bool (hV.out.symm.trans e.out.symm), rfl⟩
  · have e := Lib.hid (hasS_no h)
    by_cases h1 : 0 ≤ b
    · have h2 := btw_no (n := i) (lo := 0) (hi := 15) (by omega)
      clear h
      go_enter Tryz.func251, Tryz.ntmps251
      go_wp2_with (first | (go_at_call 271; go_in) | (go_at_call 92; (refine (in_any _ _ _ _).mono ?_; rintro e w' ⟨rfl, rfl⟩)) | fail)
      go_ret
      exact ⟨ret_bool e.out.symm, rfl⟩
    · have h2 : decide (0 ≤ b) = false := decide_eq_false h1
      clear h h1
      go_enter Tryz.func251, Tryz.ntmps251
      go_wp2_with (first | (go_at_call 271; go_in) | fail)
      go_ret
      exact ⟨ret_bool e.out.symm, rfl⟩
theorem has_impl (b i : Int) (w : World) (hb : b ≤ 9223372036854775807) :
    Calls Tryz.prog 55 #[.int .i64 b, .int .i64 i] w fun e w' => e = .returned (.bool (hasS b i)) ∧ w = w' := by
  by_cases h : 0 ≤ b ∧ 0 ≤ i ∧ i ≤ 15
  · have e := Lib.hid (hasS_bit h)
    obtain ⟨v, hv⟩ : ∃ v, (b / 2 ^ i.toNat % 2 == 1) = v := ⟨_, rfl⟩
    have hx := bit_and h.1 hb hv
    have hV := Lib.hid hv
    obtain ⟨h1, h2, h3⟩ := h
    clear hv
    go_enter Tryz.func55, Tryz.ntmps55
    go_wp2_with (first | (go_at_call 83; go_in) | (go_at_call 42; go_in) | fail)
    go_ret
    exact ⟨ret_bool (hV.out.symm.trans e.out.symm), rfl⟩
  · have e := Lib.hid (hasS_no h)
    by_cases h1 : 0 ≤ b
    · have h2 := btw_no (n := i) (lo := 0) (hi := 15) (by omega)
      clear h
      go_enter Tryz.func55, Tryz.ntmps55
      go_wp2_with (first | (go_at_call 83; go_in) | (go_at_call 42; (refine (between_any _ _ _ _).mono ?_; rintro e w' ⟨rfl, rfl⟩)) | fail)
      go_ret
      exact ⟨ret_bool e.out.symm, rfl⟩
    · have h2 : decide (0 ≤ b) = false := decide_eq_false h1
      clear h h1
      go_enter Tryz.func55, Tryz.ntmps55
      go_wp2_with (first | (go_at_call 83; go_in) | fail)
      go_ret
      exact ⟨ret_bool e.out.symm, rfl⟩
end Go.Proofs.YtifeilefdakapaaGreatDoor.Bt
