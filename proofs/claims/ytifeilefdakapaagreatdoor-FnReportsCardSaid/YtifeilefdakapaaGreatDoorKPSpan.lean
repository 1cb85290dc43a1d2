/- BitmapOk, SpanOk, FormatBitmap, FormatSpan of both sides: what they hand back. -/
import Derived.Test.YtifeilefdakapaaGreatDoorKPBits
import Derived.Test.YtifeilefdakapaaGreatDoorKPMem2
import Derived.Test.YtifeilefdakapaaGreatDoorKPCode
import Derived.Outline
import Derived.Deep.QuietTactic
import Derived.BigQuiet
namespace Go.Proofs.YtifeilefdakapaaGreatDoor.Bt
open Go.RowKit Mm
set_option maxRecDepth 8000

theorem qs {P : Program} {f : FuncId} {args : Array Value} {w : World} {v : Value} (h : Calls P f args w fun e w' => e = .returned v ∧ w = w') : Calls P f args w fun e w' => e = .returned v ∧ w' = w :=
  h.mono fun _ _ ⟨a, b⟩ => ⟨a, b.symm⟩
/-- Is the span (page, class, map) valid? -/
def spanB (p c b : Int) : Bool := decide (0 ≤ p ∧ p ≤ 31 ∧ 0 ≤ c ∧ c ≤ 3 ∧ 0 ≤ b ∧ b < 2 ^ (slots c).toNat)
theorem spanB_iff {p c b : Int} : spanB p c b = true ↔ 0 ≤ p ∧ p ≤ 31 ∧ 0 ≤ c ∧ c ≤ 3 ∧ 0 ≤ b ∧ b < 2 ^ (slots c).toNat := decide_eq_true_iff
theorem spanB_and {p c b hi : Int} (h0 : 0 ≤ c) (h3 : c ≤ 3) (hh : 2 ^ (slots c).toNat = hi + 1) : spanB p c b = (btw p 0 31 && btw b 0 hi) := by
  rw [Bool.eq_iff_iff, spanB_iff, Bool.and_eq_true, btw_iff, btw_iff, hh]
  omega
theorem spanB_no {p c b : Int} (h : ¬ (0 ≤ c ∧ c ≤ 3)) : spanB p c b = false := decide_eq_false (fun k => h ⟨k.2.2.1, k.2.2.2.1⟩)
theorem slots_lit (c s : Int) (h : slots c = s) (w : World) : Calls Tryz.prog 236 #[.int .i64 c] w fun e w' => e = .returned (.int .i64 s) ∧ w = w' := by rw [← h]; exact slots_spec c w
theorem slots_liti (c s : Int) (h : slots c = s) (w : World) : Calls Tryz.prog 28 #[.int .i64 c] w fun e w' => e = .returned (.int .i64 s) ∧ w = w' := by rw [← h]; exact slots_impl c w

theorem bm2_spec (b : Int) (w : World) :
    Calls Tryz.prog 253 #[.int .i64 2, .int .i64 b] w fun e w' => e = .returned (.bool (btw b 0 3)) ∧ w = w' := by
  have q : btw 2 1 16 = true := rfl
  go_enter Tryz.func253, Tryz.ntmps253
  go_wp2_with (first | (go_at_call 92; (refine (in_any _ _ _ _).mono ?_; rintro e w' ⟨rfl, rfl⟩)) | fail)
  go_ret
  exact ⟨rfl, rfl⟩
theorem bm2_impl (b : Int) (w : World) :
    Calls Tryz.prog 58 #[.int .i64 2, .int .i64 b] w fun e w' => e = .returned (.bool (btw b 0 3)) ∧ w = w' := by
  have q : btw 2 1 16 = true := rfl
  go_enter Tryz.func58, Tryz.ntmps58
  go_wp2_with (first | (go_at_call 42; (refine (between_any _ _ _ _).mono ?_; rintro e w' ⟨rfl, rfl⟩)) | fail)
  go_ret
  exact ⟨rfl, rfl⟩
theorem bm4_spec (b : Int) (w : World) :
    Calls Tryz.prog 253 #[.int .i64 4, .int .i64 b] w fun e w' => e = .returned (.bool (btw b 0 15)) ∧ w = w' := by
  have q : btw 4 1 16 = true := rfl
  go_enter Tryz.func253, Tryz.ntmps253
  go_wp2_with (first | (go_at_call 92; (refine (in_any _ _ _ _).mono ?_; rintro e w' ⟨rfl, rfl⟩)) | fail)
  go_ret
  exact ⟨rfl, rfl⟩
theorem bm4_impl (b : Int) (w : World) :
    Calls Tryz.prog 58 #[.int .i64 4, .int .i64 b] w fun e w' => e = .returned (.bool (btw b 0 15)) ∧ w = w' := by
  have q : btw 4 1 16 = true := rfl
  go_enter Tryz.func58, Tryz.ntmps58
  go_wp2_with (first | (go_at_call 42; (refine (between_any _ _ _ _).mono ?_; rintro e w' ⟨rfl, rfl⟩)) | fail)
  go_ret
  exact ⟨rfl, rfl⟩
theorem bm8_spec (b : Int) (w : World) :
    Calls Tryz.prog 253 #[.int .i64 8, .int .i64 b] w fun e w' => e = .returned (.bool (btw b 0 255)) ∧ w = w' := by
  have q : btw 8 1 16 = true := rfl
  go_enter Tryz.func253, Tryz.ntmps253
  go_wp2_with (first | (go_at_call 92; (refine (in_any _ _ _ _).mono ?_; rintro e w' ⟨rfl, rfl⟩)) | fail)
  go_ret
  exact ⟨rfl, rfl⟩
theorem bm8_impl (b : Int) (w : World) :
    Calls Tryz.prog 58 #[.int .i64 8, .int .i64 b] w fun e w' => e = .returned (.bool (btw b 0 255)) ∧ w = w' := by
  have q : btw 8 1 16 = true := rfl
  go_enter Tryz.func58, Tryz.ntmps58
  go_wp2_with (first | (go_at_call 42; (refine (between_any _ _ _ _).mono ?_; rintro e w' ⟨rfl, rfl⟩)) | fail)
  go_ret
  exact ⟨rfl, rfl⟩
theorem bm16_spec (b : Int) (w : World) :
    Calls Tryz.prog 253 #[.int .i64 16, .int .i64 b] w fun e w' => e = .returned (.bool (btw b 0 65535)) ∧ w = w' := by
  have q : btw 16 1 16 = true := rfl
  go_enter Tryz.func253, Tryz.ntmps253
  go_wp2_with (first | (go_at_call 92; (refine (in_any _ _ _ _).mono ?_; rintro e w' ⟨rfl, rfl⟩)) | fail)
  go_ret
  exact ⟨rfl, rfl⟩
theorem bm16_impl (b : Int) (w : World) :
    Calls Tryz.prog 58 #[.int .i64 16, .int .i64 b] w fun e w' => e = .returned (.bool (btw b 0 65535)) ∧ w = w' := by
  have q : btw 16 1 16 = true := rfl
  go_enter Tryz.func58, Tryz.ntmps58
  go_wp2_with (first | (go_at_call 42; (refine (between_any _ _ _ _).mono ?_; rintro e w' ⟨rfl, rfl⟩)) | fail)
  go_ret
  exact ⟨rfl, rfl⟩
theorem bm0_spec (b : Int) (w : World) :
    Calls Tryz.prog 253 #[.int .i64 0, .int .i64 b] w fun e w' => e = .returned (.bool false) ∧ w = w' := by
  have q : btw 0 1 16 = false := rfl
  go_enter Tryz.func253, Tryz.ntmps253
  go_wp2_with (first | (go_at_call 92; (refine (in_any _ _ _ _).mono ?_; rintro e w' ⟨rfl, rfl⟩)) | fail)
  go_ret
  exact ⟨rfl, rfl⟩
theorem bm0_impl (b : Int) (w : World) :
    Calls Tryz.prog 58 #[.int .i64 0, .int .i64 b] w fun e w' => e = .returned (.bool false) ∧ w = w' := by
  have q : btw 0 1 16 = false := rfl
  go_enter Tryz.func58, Tryz.ntmps58
  go_wp2_with (first | (go_at_call 42; (refine (between_any _ _ _ _).mono ?_; rintro e w' ⟨rfl, rfl⟩)) | fail)
  go_ret
  exact ⟨rfl, rfl⟩
set_option maxHeartbeats 2000000 in
theorem spanOk_spec (p c b : Int) (w : World) :
    Calls Tryz.prog 195 #[.agg #[.int .i64 p, .int .i64 c, .int .i64 b]] w fun e w' => e = .returned (.bool (spanB p c b)) ∧ Below w.heap.size w w' := by
  by_cases hp : 0 ≤ p ∧ p ≤ 31
  rotate_left
  · have E := Lib.hid (show spanB p c b = false from decide_eq_false (fun k => hp ⟨k.1, k.2.1⟩))
    have e1 := btw_no hp
    clear hp
    go_enter Tryz.func195, Tryz.ntmps195
    go_wp2_with fail
    go_quiet ((first | (go_at_call 92; exact Calls.quiet_of_same (qs (in_any _ _ _ _)))))
    go_wp2
    go_ret
    exact ⟨ret_bool E.out.symm, below_drewN (by go_grown) _⟩
  have e1 := btw_yes hp.1 hp.2
  clear hp
  rcases cls c with rfl | rfl | rfl | rfl | h
  · have e := spanB_and (p := p) (c := 0) (b := b) (hi := 65535) (by decide) (by decide) rfl
    rw [e1, Bool.true_and] at e
    have E := Lib.hid e
    clear e
    have q : btw 0 0 3 = true := rfl
    go_enter Tryz.func195, Tryz.ntmps195
    go_wp2_with fail
    go_quiet ((first | (go_at_call 92; exact Calls.quiet_of_same (qs (in_any _ _ _ _))) | (go_at_call 236; exact Calls.quiet_of_same (qs (slots_lit 0 16 rfl _))) | (go_at_call 253; exact Calls.quiet_of_same (qs (bm16_spec _ _)))))
    go_wp2
    go_ret
    exact ⟨ret_bool E.out.symm, below_drewN (by go_grown) _⟩
  · have e := spanB_and (p := p) (c := 1) (b := b) (hi := 255) (by decide) (by decide) rfl
    rw [e1, Bool.true_and] at e
    have E := Lib.hid e
    clear e
    have q : btw 1 0 3 = true := rfl
    go_enter Tryz.func195, Tryz.ntmps195
    go_wp2_with fail
    go_quiet ((first | (go_at_call 92; exact Calls.quiet_of_same (qs (in_any _ _ _ _))) | (go_at_call 236; exact Calls.quiet_of_same (qs (slots_lit 1 8 rfl _))) | (go_at_call 253; exact Calls.quiet_of_same (qs (bm8_spec _ _)))))
    go_wp2
    go_ret
    exact ⟨ret_bool E.out.symm, below_drewN (by go_grown) _⟩
  · have e := spanB_and (p := p) (c := 2) (b := b) (hi := 15) (by decide) (by decide) rfl
    rw [e1, Bool.true_and] at e
    have E := Lib.hid e
    clear e
    have q : btw 2 0 3 = true := rfl
    go_enter Tryz.func195, Tryz.ntmps195
    go_wp2_with fail
    go_quiet ((first | (go_at_call 92; exact Calls.quiet_of_same (qs (in_any _ _ _ _))) | (go_at_call 236; exact Calls.quiet_of_same (qs (slots_lit 2 4 rfl _))) | (go_at_call 253; exact Calls.quiet_of_same (qs (bm4_spec _ _)))))
    go_wp2
    go_ret
    exact ⟨ret_bool E.out.symm, below_drewN (by go_grown) _⟩
  · have e := spanB_and (p := p) (c := 3) (b := b) (hi := 3) (by decide) (by decide) rfl
    rw [e1, Bool.true_and] at e
    have E := Lib.hid e
    clear e
    have q : btw 3 0 3 = true := rfl
    go_enter Tryz.func195, Tryz.ntmps195
    go_wp2_with fail
    go_quiet ((first | (go_at_call 92; exact Calls.quiet_of_same (qs (in_any _ _ _ _))) | (go_at_call 236; exact Calls.quiet_of_same (qs (slots_lit 3 2 rfl _))) | (go_at_call 253; exact Calls.quiet_of_same (qs (bm2_spec _ _)))))
    go_wp2
    go_ret
    exact ⟨ret_bool E.out.symm, below_drewN (by go_grown) _⟩
  · have E := Lib.hid (spanB_no (p := p) (b := b) h)
    have q := btw_no h
    have q2 := slots_no h
    clear h
    go_enter Tryz.func195, Tryz.ntmps195
    go_wp2_with fail
    go_quiet ((first | (go_at_call 92; exact Calls.quiet_of_same (qs (in_any _ _ _ _))) | (go_at_call 236; exact Calls.quiet_of_same (qs (slots_lit c 0 q2 _))) | (go_at_call 253; exact Calls.quiet_of_same (qs (bm0_spec _ _)))))
    go_wp2
    go_ret
    exact ⟨ret_bool E.out.symm, below_drewN (by go_grown) _⟩
set_option maxHeartbeats 2000000 in
theorem spanOk_impl (p c b : Int) (w : World) :
    Calls Tryz.prog 26 #[.agg #[.int .i64 p, .int .i64 c, .int .i64 b]] w fun e w' => e = .returned (.bool (spanB p c b)) ∧ Below w.heap.size w w' := by
  by_cases hp : 0 ≤ p ∧ p ≤ 31
  rotate_left
  · have E := Lib.hid (show spanB p c b = false from decide_eq_false (fun k => hp ⟨k.1, k.2.1⟩))
    have e1 := btw_no hp
    clear hp
    go_enter Tryz.func26, Tryz.ntmps26
    go_wp2_with fail
    go_quiet ((first | (go_at_call 42; exact Calls.quiet_of_same (qs (between_any _ _ _ _)))))
    go_wp2
    go_ret
    exact ⟨ret_bool E.out.symm, below_drewN (by go_grown) _⟩
  have e1 := btw_yes hp.1 hp.2
  clear hp
  rcases cls c with rfl | rfl | rfl | rfl | h
  · have e := spanB_and (p := p) (c := 0) (b := b) (hi := 65535) (by decide) (by decide) rfl
    rw [e1, Bool.true_and] at e
    have E := Lib.hid e
    clear e
    have q : btw 0 0 3 = true := rfl
    go_enter Tryz.func26, Tryz.ntmps26
    go_wp2_with fail
    go_quiet ((first | (go_at_call 42; exact Calls.quiet_of_same (qs (between_any _ _ _ _))) | (go_at_call 28; exact Calls.quiet_of_same (qs (slots_liti 0 16 rfl _))) | (go_at_call 58; exact Calls.quiet_of_same (qs (bm16_impl _ _))) | (go_at_call 53; exact Calls.quiet_of_same (qs (clsOk_any _ _)))))
    go_wp2
    go_ret
    exact ⟨ret_bool E.out.symm, below_drewN (by go_grown) _⟩
  · have e := spanB_and (p := p) (c := 1) (b := b) (hi := 255) (by decide) (by decide) rfl
    rw [e1, Bool.true_and] at e
    have E := Lib.hid e
    clear e
    have q : btw 1 0 3 = true := rfl
    go_enter Tryz.func26, Tryz.ntmps26
    go_wp2_with fail
    go_quiet ((first | (go_at_call 42; exact Calls.quiet_of_same (qs (between_any _ _ _ _))) | (go_at_call 28; exact Calls.quiet_of_same (qs (slots_liti 1 8 rfl _))) | (go_at_call 58; exact Calls.quiet_of_same (qs (bm8_impl _ _))) | (go_at_call 53; exact Calls.quiet_of_same (qs (clsOk_any _ _)))))
    go_wp2
    go_ret
    exact ⟨ret_bool E.out.symm, below_drewN (by go_grown) _⟩
  · have e := spanB_and (p := p) (c := 2) (b := b) (hi := 15) (by decide) (by decide) rfl
    rw [e1, Bool.true_and] at e
    have E := Lib.hid e
    clear e
    have q : btw 2 0 3 = true := rfl
    go_enter Tryz.func26, Tryz.ntmps26
    go_wp2_with fail
    go_quiet ((first | (go_at_call 42; exact Calls.quiet_of_same (qs (between_any _ _ _ _))) | (go_at_call 28; exact Calls.quiet_of_same (qs (slots_liti 2 4 rfl _))) | (go_at_call 58; exact Calls.quiet_of_same (qs (bm4_impl _ _))) | (go_at_call 53; exact Calls.quiet_of_same (qs (clsOk_any _ _)))))
    go_wp2
    go_ret
    exact ⟨ret_bool E.out.symm, below_drewN (by go_grown) _⟩
  · have e := spanB_and (p := p) (c := 3) (b := b) (hi := 3) (by decide) (by decide) rfl
    rw [e1, Bool.true_and] at e
    have E := Lib.hid e
    clear e
    have q : btw 3 0 3 = true := rfl
    go_enter Tryz.func26, Tryz.ntmps26
    go_wp2_with fail
    go_quiet ((first | (go_at_call 42; exact Calls.quiet_of_same (qs (between_any _ _ _ _))) | (go_at_call 28; exact Calls.quiet_of_same (qs (slots_liti 3 2 rfl _))) | (go_at_call 58; exact Calls.quiet_of_same (qs (bm2_impl _ _))) | (go_at_call 53; exact Calls.quiet_of_same (qs (clsOk_any _ _)))))
    go_wp2
    go_ret
    exact ⟨ret_bool E.out.symm, below_drewN (by go_grown) _⟩
  · have E := Lib.hid (spanB_no (p := p) (b := b) h)
    have q := btw_no h
    have q2 := slots_no h
    clear h
    go_enter Tryz.func26, Tryz.ntmps26
    go_wp2_with fail
    go_quiet ((first | (go_at_call 42; exact Calls.quiet_of_same (qs (between_any _ _ _ _))) | (go_at_call 28; exact Calls.quiet_of_same (qs (slots_liti c 0 q2 _))) | (go_at_call 58; exact Calls.quiet_of_same (qs (bm0_impl _ _))) | (go_at_call 53; exact Calls.quiet_of_same (qs (clsOk_any _ _)))))
    go_wp2
    go_ret
    exact ⟨ret_bool E.out.symm, below_drewN (by go_grown) _⟩
end Go.Proofs.YtifeilefdakapaaGreatDoor.Bt
