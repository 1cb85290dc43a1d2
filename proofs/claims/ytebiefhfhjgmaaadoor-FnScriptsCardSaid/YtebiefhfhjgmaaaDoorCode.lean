/- FormatInt and FormatCode of the program, FormatCode of the reference: what they hand back, for all arguments. -/
import Derived.Test.YtebiefhfhjgmaaaDoorTab
import Derived.Test.YtebiefhfhjgmaaaDoorNum
import Derived.Test.YtebiefhfhjgmaaaDoorShelf
import Derived.Lib.AppendIntMem
namespace Go.Proofs.YtebiefhfhjgmaaaDoor.Fc
set_option maxRecDepth 100000
open Go.RowKit Mm Tb

theorem int_any (n : Int) (w : World) (h0 : -9223372036854775808 ≤ n) (h1 : n ≤ 9223372036854775807) (ht : Tab w) :
    Calls Tryd.prog 51 #[.int .i64 n] w fun e w' => e = .returned (.string ⟨(Lib.itoa n).toArray⟩) ∧ Below w.heap.size w w' := by
  go_enter Tryd.func51, Tryd.ntmps51
  go_wp2_with fail
  refine (Tryd.strconv_Itoa n h0 h1 _ ht).mono ?_
  rintro e w1 ⟨rfl, k, os, hw⟩
  have Hb : Hid (Below w.heap.size w w1) := by rw [hw]; exact Lib.below_grow _ _ (Nat.le_refl _) _ _
  clear hw
  go_wp2_with fail
  go_ret
  exact ⟨rfl, Hb.out⟩

/-- The names of the codes of a kind. -/
def names (kind : Int) : List ByteArray :=
  if kind = 1 then [⟨#[111, 107]⟩, ⟨#[116, 104, 114, 101, 97, 100]⟩, ⟨#[115, 105, 122, 101]⟩, ⟨#[108, 105, 109, 105, 116]⟩, ⟨#[109, 101, 109, 111, 114, 121]⟩, ⟨#[104, 101, 97, 112]⟩] else if kind = 2 then [⟨#[111, 107]⟩, ⟨#[116, 104, 114, 101, 97, 100]⟩, ⟨#[102, 111, 114, 101, 105, 103, 110]⟩, ⟨#[105, 110, 115, 105, 100, 101]⟩, ⟨#[116, 119, 105, 99, 101]⟩, ⟨#[119, 97, 105, 116]⟩, ⟨#[104, 101, 97, 112]⟩] else if kind = 3 then [⟨#[111, 107]⟩, ⟨#[111, 117, 116, 115, 105, 100, 101]⟩, ⟨#[119, 97, 105, 116]⟩, ⟨#[118, 97, 108, 117, 101]⟩] else []
def codeText (kind code : Int) : ByteArray :=
  if code = 90 then ⟨#[110, 111, 110, 101]⟩ else if 0 ≤ code ∧ code < (names kind).length then (names kind).getD code.toNat ByteArray.empty else ⟨(Lib.itoa code).toArray⟩
theorem text_none (kind : Int) : codeText kind 90 = ⟨#[110, 111, 110, 101]⟩ := by simp [codeText]
theorem text_num (kind code : Int) (h : code ≠ 90) (h2 : ¬ (0 ≤ code ∧ code < (names kind).length)) : codeText kind code = ⟨(Lib.itoa code).toArray⟩ := by
  unfold codeText; rw [if_neg h, if_neg h2]

set_option maxHeartbeats 4000000 in
theorem impl_none (kind : Int) (w : World) :
    Calls Tryd.prog 18 #[.int .i64 kind, .int .i64 90] w fun e w' => e = .returned (.string (codeText kind 90)) ∧ Below w.heap.size w w' := by
  by_cases e1 : kind = 1
  · subst e1
    go_enter Tryd.func18, Tryd.ntmps18
    go_wp2
    go_ret
    exact ⟨Nm.ret_str (text_none _).symm, by go_grown⟩
  by_cases e2 : kind = 2
  · subst e2
    go_enter Tryd.func18, Tryd.ntmps18
    go_wp2
    go_ret
    exact ⟨Nm.ret_str (text_none _).symm, by go_grown⟩
  by_cases e3 : kind = 3
  · subst e3
    go_enter Tryd.func18, Tryd.ntmps18
    go_wp2
    go_ret
    exact ⟨Nm.ret_str (text_none _).symm, by go_grown⟩
  have q1 : (kind == 1) = false := by simpa using e1
  have q2 : (kind == 2) = false := by simpa using e2
  have q3 : (kind == 3) = false := by simpa using e3
  go_enter Tryd.func18, Tryd.ntmps18
  go_wp2
  go_ret
  exact ⟨Nm.ret_str (text_none _).symm, by go_grown⟩
set_option maxHeartbeats 4000000 in
theorem impl_1 (code : Int) (w : World) (h0 : -9223372036854775808 ≤ code) (h1 : code ≤ 9223372036854775807) (h90 : code ≠ 90) (ht : Tab w) :
    Calls Tryd.prog 18 #[.int .i64 1, .int .i64 code] w fun e w' => e = .returned (.string (codeText 1 code)) ∧ Below w.heap.size w w' := by
  by_cases hr : 0 ≤ code ∧ code < 6
  · rcases (show code = 0 ∨ code = 1 ∨ code = 2 ∨ code = 3 ∨ code = 4 ∨ code = 5 by omega) with rfl | rfl | rfl | rfl | rfl | rfl
    all_goals
      go_enter Tryd.func18, Tryd.ntmps18
      go_wp2
      go_ret
      exact ⟨Nm.ret_str rfl, by go_grown⟩
  · have Ht := Lib.hid (text_num 1 code h90 (by intro h; exact hr (by simpa [names] using h)))
    have q90 : (code == 90) = false := by simpa using h90
    clear h90
    by_cases hl : code < 0
    · go_enter Tryd.func18, Tryd.ntmps18
      go_wp2_with (first | (go_at_call 50; go_in) | fail)
      refine (int_any _ _ h0 h1 (by first | exact ht | exact tab_alloc ht _ | exact tab_alloc (tab_alloc ht _) _)).mono ?_
      rintro e w1 ⟨rfl, hb⟩
      have Hb := Lib.hid hb
      clear hb
      go_wp2
      go_ret
      exact ⟨Nm.ret_str Ht.out.symm, Below.trans (by go_grown) (Hb.out.mono (by simp; try omega))⟩
    · have hg : 6 ≤ code := by omega
      go_enter Tryd.func18, Tryd.ntmps18
      go_wp2_with (first | (go_at_call 50; go_in) | fail)
      refine (int_any _ _ h0 h1 (by first | exact ht | exact tab_alloc ht _ | exact tab_alloc (tab_alloc ht _) _)).mono ?_
      rintro e w1 ⟨rfl, hb⟩
      have Hb := Lib.hid hb
      clear hb
      go_wp2
      go_ret
      exact ⟨Nm.ret_str Ht.out.symm, Below.trans (by go_grown) (Hb.out.mono (by simp; try omega))⟩
set_option maxHeartbeats 4000000 in
theorem impl_2 (code : Int) (w : World) (h0 : -9223372036854775808 ≤ code) (h1 : code ≤ 9223372036854775807) (h90 : code ≠ 90) (ht : Tab w) :
    Calls Tryd.prog 18 #[.int .i64 2, .int .i64 code] w fun e w' => e = .returned (.string (codeText 2 code)) ∧ Below w.heap.size w w' := by
  by_cases hr : 0 ≤ code ∧ code < 7
  · rcases (show code = 0 ∨ code = 1 ∨ code = 2 ∨ code = 3 ∨ code = 4 ∨ code = 5 ∨ code = 6 by omega) with rfl | rfl | rfl | rfl | rfl | rfl | rfl
    all_goals
      go_enter Tryd.func18, Tryd.ntmps18
      go_wp2
      go_ret
      exact ⟨Nm.ret_str rfl, by go_grown⟩
  · have Ht := Lib.hid (text_num 2 code h90 (by intro h; exact hr (by simpa [names] using h)))
    have q90 : (code == 90) = false := by simpa using h90
    clear h90
    by_cases hl : code < 0
    · go_enter Tryd.func18, Tryd.ntmps18
      go_wp2_with (first | (go_at_call 50; go_in) | fail)
      refine (int_any _ _ h0 h1 (by first | exact ht | exact tab_alloc ht _ | exact tab_alloc (tab_alloc ht _) _)).mono ?_
      rintro e w1 ⟨rfl, hb⟩
      have Hb := Lib.hid hb
      clear hb
      go_wp2
      go_ret
      exact ⟨Nm.ret_str Ht.out.symm, Below.trans (by go_grown) (Hb.out.mono (by simp; try omega))⟩
    · have hg : 7 ≤ code := by omega
      go_enter Tryd.func18, Tryd.ntmps18
      go_wp2_with (first | (go_at_call 50; go_in) | fail)
      refine (int_any _ _ h0 h1 (by first | exact ht | exact tab_alloc ht _ | exact tab_alloc (tab_alloc ht _) _)).mono ?_
      rintro e w1 ⟨rfl, hb⟩
      have Hb := Lib.hid hb
      clear hb
      go_wp2
      go_ret
      exact ⟨Nm.ret_str Ht.out.symm, Below.trans (by go_grown) (Hb.out.mono (by simp; try omega))⟩
set_option maxHeartbeats 4000000 in
theorem impl_3 (code : Int) (w : World) (h0 : -9223372036854775808 ≤ code) (h1 : code ≤ 9223372036854775807) (h90 : code ≠ 90) (ht : Tab w) :
    Calls Tryd.prog 18 #[.int .i64 3, .int .i64 code] w fun e w' => e = .returned (.string (codeText 3 code)) ∧ Below w.heap.size w w' := by
  by_cases hr : 0 ≤ code ∧ code < 4
  · rcases (show code = 0 ∨ code = 1 ∨ code = 2 ∨ code = 3 by omega) with rfl | rfl | rfl | rfl
    all_goals
      go_enter Tryd.func18, Tryd.ntmps18
      go_wp2
      go_ret
      exact ⟨Nm.ret_str rfl, by go_grown⟩
  · have Ht := Lib.hid (text_num 3 code h90 (by intro h; exact hr (by simpa [names] using h)))
    have q90 : (code == 90) = false := by simpa using h90
    clear h90
    by_cases hl : code < 0
    · go_enter Tryd.func18, Tryd.ntmps18
      go_wp2_with (first | (go_at_call 50; go_in) | fail)
      refine (int_any _ _ h0 h1 (by first | exact ht | exact tab_alloc ht _ | exact tab_alloc (tab_alloc ht _) _)).mono ?_
      rintro e w1 ⟨rfl, hb⟩
      have Hb := Lib.hid hb
      clear hb
      go_wp2
      go_ret
      exact ⟨Nm.ret_str Ht.out.symm, Below.trans (by go_grown) (Hb.out.mono (by simp; try omega))⟩
    · have hg : 4 ≤ code := by omega
      go_enter Tryd.func18, Tryd.ntmps18
      go_wp2_with (first | (go_at_call 50; go_in) | fail)
      refine (int_any _ _ h0 h1 (by first | exact ht | exact tab_alloc ht _ | exact tab_alloc (tab_alloc ht _) _)).mono ?_
      rintro e w1 ⟨rfl, hb⟩
      have Hb := Lib.hid hb
      clear hb
      go_wp2
      go_ret
      exact ⟨Nm.ret_str Ht.out.symm, Below.trans (by go_grown) (Hb.out.mono (by simp; try omega))⟩
set_option maxHeartbeats 4000000 in
theorem impl_0 (kind code : Int) (w : World) (h0 : -9223372036854775808 ≤ code) (h1 : code ≤ 9223372036854775807) (h90 : code ≠ 90) (e1 : kind ≠ 1) (e2 : kind ≠ 2) (e3 : kind ≠ 3) (ht : Tab w) :
    Calls Tryd.prog 18 #[.int .i64 kind, .int .i64 code] w fun e w' => e = .returned (.string (codeText kind code)) ∧ Below w.heap.size w w' := by
  have Ht := Lib.hid (text_num kind code h90 (by intro h; simp [names, e1, e2, e3] at h; omega))
  have q90 : (code == 90) = false := by simpa using h90
  have q1 : (kind == 1) = false := by simpa using e1
  have q2 : (kind == 2) = false := by simpa using e2
  have q3 : (kind == 3) = false := by simpa using e3
  clear h90 e1 e2 e3
  by_cases hl : code < 0
  · go_enter Tryd.func18, Tryd.ntmps18
    go_wp2_with (first | (go_at_call 50; go_in) | fail)
    refine (int_any _ _ h0 h1 (by first | exact ht | exact tab_alloc ht _ | exact tab_alloc (tab_alloc ht _) _)).mono ?_
    rintro e w1 ⟨rfl, hb⟩
    have Hb := Lib.hid hb
    clear hb
    go_wp2
    go_ret
    exact ⟨Nm.ret_str Ht.out.symm, Below.trans (by go_grown) (Hb.out.mono (by simp; try omega))⟩
  · have hg : 0 ≤ code := by omega
    go_enter Tryd.func18, Tryd.ntmps18
    go_wp2_with (first | (go_at_call 50; go_in) | fail)
    refine (int_any _ _ h0 h1 (by first | exact ht | exact tab_alloc ht _ | exact tab_alloc (tab_alloc ht _) _)).mono ?_
    rintro e w1 ⟨rfl, hb⟩
    have Hb := Lib.hid hb
    clear hb
    go_wp2
    go_ret
    exact ⟨Nm.ret_str Ht.out.symm, Below.trans (by go_grown) (Hb.out.mono (by simp; try omega))⟩
theorem impl_any (kind code : Int) (w : World) (h0 : -9223372036854775808 ≤ code) (h1 : code ≤ 9223372036854775807) (ht : Tab w) :
    Calls Tryd.prog 18 #[.int .i64 kind, .int .i64 code] w fun e w' => e = .returned (.string (codeText kind code)) ∧ Below w.heap.size w w' := by
  by_cases h90 : code = 90
  · subst h90; exact impl_none kind w
  by_cases e1 : kind = 1
  · subst e1; exact impl_1 code w h0 h1 h90 ht
  by_cases e2 : kind = 2
  · subst e2; exact impl_2 code w h0 h1 h90 ht
  by_cases e3 : kind = 3
  · subst e3; exact impl_3 code w h0 h1 h90 ht
  exact impl_0 kind code w h0 h1 h90 e1 e2 e3 ht
set_option maxHeartbeats 4000000 in
theorem spec_none (kind : Int) (w : World) :
    Calls Tryd.prog 19 #[.int .i64 kind, .int .i64 90] w fun e w' => e = .returned (.string (codeText kind 90)) ∧ Below w.heap.size w w' := by
  by_cases e1 : kind = 1
  · subst e1
    go_enter Tryd.func19, Tryd.ntmps19
    go_wp2
    go_ret
    exact ⟨Nm.ret_str (text_none _).symm, by go_grown⟩
  by_cases e2 : kind = 2
  · subst e2
    go_enter Tryd.func19, Tryd.ntmps19
    go_wp2
    go_ret
    exact ⟨Nm.ret_str (text_none _).symm, by go_grown⟩
  by_cases e3 : kind = 3
  · subst e3
    go_enter Tryd.func19, Tryd.ntmps19
    go_wp2
    go_ret
    exact ⟨Nm.ret_str (text_none _).symm, by go_grown⟩
  have q1 : (kind == 1) = false := by simpa using e1
  have q2 : (kind == 2) = false := by simpa using e2
  have q3 : (kind == 3) = false := by simpa using e3
  go_enter Tryd.func19, Tryd.ntmps19
  go_wp2
  go_ret
  exact ⟨Nm.ret_str (text_none _).symm, by go_grown⟩
set_option maxHeartbeats 4000000 in
theorem spec_1 (code : Int) (w : World) (h0 : -9223372036854775808 ≤ code) (h1 : code ≤ 9223372036854775807) (h90 : code ≠ 90) :
    Calls Tryd.prog 19 #[.int .i64 1, .int .i64 code] w fun e w' => e = .returned (.string (codeText 1 code)) ∧ Below w.heap.size w w' := by
  by_cases hr : 0 ≤ code ∧ code < 6
  · rcases (show code = 0 ∨ code = 1 ∨ code = 2 ∨ code = 3 ∨ code = 4 ∨ code = 5 by omega) with rfl | rfl | rfl | rfl | rfl | rfl
    all_goals
      go_enter Tryd.func19, Tryd.ntmps19
      go_wp2
      go_ret
      exact ⟨Nm.ret_str rfl, by go_grown⟩
  · have Ht := Lib.hid (text_num 1 code h90 (by intro h; exact hr (by simpa [names] using h)))
    have q90 : (code == 90) = false := by simpa using h90
    clear h90
    by_cases hl : code < 0
    · go_enter Tryd.func19, Tryd.ntmps19
      go_wp2_with (first | (go_at_call 52; go_in) | fail)
      refine (Nm.fmt_any _ _ h0 h1).mono ?_
      rintro e w1 ⟨rfl, hb⟩
      have Hb := Lib.hid hb
      clear hb
      go_wp2
      go_ret
      exact ⟨Nm.ret_str Ht.out.symm, Below.trans (by go_grown) (Hb.out.mono (by simp; try omega))⟩
    · have hg : 6 ≤ code := by omega
      go_enter Tryd.func19, Tryd.ntmps19
      go_wp2_with (first | (go_at_call 52; go_in) | fail)
      refine (Nm.fmt_any _ _ h0 h1).mono ?_
      rintro e w1 ⟨rfl, hb⟩
      have Hb := Lib.hid hb
      clear hb
      go_wp2
      go_ret
      exact ⟨Nm.ret_str Ht.out.symm, Below.trans (by go_grown) (Hb.out.mono (by simp; try omega))⟩
set_option maxHeartbeats 4000000 in
theorem spec_2 (code : Int) (w : World) (h0 : -9223372036854775808 ≤ code) (h1 : code ≤ 9223372036854775807) (h90 : code ≠ 90) :
    Calls Tryd.prog 19 #[.int .i64 2, .int .i64 code] w fun e w' => e = .returned (.string (codeText 2 code)) ∧ Below w.heap.size w w' := by
  by_cases hr : 0 ≤ code ∧ code < 7
  · rcases (show code = 0 ∨ code = 1 ∨ code = 2 ∨ code = 3 ∨ code = 4 ∨ code = 5 ∨ code = 6 by omega) with rfl | rfl | rfl | rfl | rfl | rfl | rfl
    all_goals
      go_enter Tryd.func19, Tryd.ntmps19
      go_wp2
      go_ret
      exact ⟨Nm.ret_str rfl, by go_grown⟩
  · have Ht := Lib.hid (text_num 2 code h90 (by intro h; exact hr (by simpa [names] using h)))
    have q90 : (code == 90) = false := by simpa using h90
    clear h90
    by_cases hl : code < 0
    · go_enter Tryd.func19, Tryd.ntmps19
      go_wp2_with (first | (go_at_call 52; go_in) | fail)
      refine (Nm.fmt_any _ _ h0 h1).mono ?_
      rintro e w1 ⟨rfl, hb⟩
      have Hb := Lib.hid hb
      clear hb
      go_wp2
      go_ret
      exact ⟨Nm.ret_str Ht.out.symm, Below.trans (by go_grown) (Hb.out.mono (by simp; try omega))⟩
    · have hg : 7 ≤ code := by omega
      go_enter Tryd.func19, Tryd.ntmps19
      go_wp2_with (first | (go_at_call 52; go_in) | fail)
      refine (Nm.fmt_any _ _ h0 h1).mono ?_
      rintro e w1 ⟨rfl, hb⟩
      have Hb := Lib.hid hb
      clear hb
      go_wp2
      go_ret
      exact ⟨Nm.ret_str Ht.out.symm, Below.trans (by go_grown) (Hb.out.mono (by simp; try omega))⟩
set_option maxHeartbeats 4000000 in
theorem spec_3 (code : Int) (w : World) (h0 : -9223372036854775808 ≤ code) (h1 : code ≤ 9223372036854775807) (h90 : code ≠ 90) :
    Calls Tryd.prog 19 #[.int .i64 3, .int .i64 code] w fun e w' => e = .returned (.string (codeText 3 code)) ∧ Below w.heap.size w w' := by
  by_cases hr : 0 ≤ code ∧ code < 4
  · rcases (show code = 0 ∨ code = 1 ∨ code = 2 ∨ code = 3 by omega) with rfl | rfl | rfl | rfl
    all_goals
      go_enter Tryd.func19, Tryd.ntmps19
      go_wp2
      go_ret
      exact ⟨Nm.ret_str rfl, by go_grown⟩
  · have Ht := Lib.hid (text_num 3 code h90 (by intro h; exact hr (by simpa [names] using h)))
    have q90 : (code == 90) = false := by simpa using h90
    clear h90
    by_cases hl : code < 0
    · go_enter Tryd.func19, Tryd.ntmps19
      go_wp2_with (first | (go_at_call 52; go_in) | fail)
      refine (Nm.fmt_any _ _ h0 h1).mono ?_
      rintro e w1 ⟨rfl, hb⟩
      have Hb := Lib.hid hb
      clear hb
      go_wp2
      go_ret
      exact ⟨Nm.ret_str Ht.out.symm, Below.trans (by go_grown) (Hb.out.mono (by simp; try omega))⟩
    · have hg : 4 ≤ code := by omega
      go_enter Tryd.func19, Tryd.ntmps19
      go_wp2_with (first | (go_at_call 52; go_in) | fail)
      refine (Nm.fmt_any _ _ h0 h1).mono ?_
      rintro e w1 ⟨rfl, hb⟩
      have Hb := Lib.hid hb
      clear hb
      go_wp2
      go_ret
      exact ⟨Nm.ret_str Ht.out.symm, Below.trans (by go_grown) (Hb.out.mono (by simp; try omega))⟩
set_option maxHeartbeats 4000000 in
theorem spec_0 (kind code : Int) (w : World) (h0 : -9223372036854775808 ≤ code) (h1 : code ≤ 9223372036854775807) (h90 : code ≠ 90) (e1 : kind ≠ 1) (e2 : kind ≠ 2) (e3 : kind ≠ 3) :
    Calls Tryd.prog 19 #[.int .i64 kind, .int .i64 code] w fun e w' => e = .returned (.string (codeText kind code)) ∧ Below w.heap.size w w' := by
  have Ht := Lib.hid (text_num kind code h90 (by intro h; simp [names, e1, e2, e3] at h; omega))
  have q90 : (code == 90) = false := by simpa using h90
  have q1 : (kind == 1) = false := by simpa using e1
  have q2 : (kind == 2) = false := by simpa using e2
  have q3 : (kind == 3) = false := by simpa using e3
  clear h90 e1 e2 e3
  by_cases hl : code < 0
  · go_enter Tryd.func19, Tryd.ntmps19
    go_wp2_with (first | (go_at_call 52; go_in) | fail)
    refine (Nm.fmt_any _ _ h0 h1).mono ?_
    rintro e w1 ⟨rfl, hb⟩
    have Hb := Lib.hid hb
    clear hb
    go_wp2
    go_ret
    exact ⟨Nm.ret_str Ht.out.symm, Below.trans (by go_grown) (Hb.out.mono (by simp; try omega))⟩
  · have hg : 0 ≤ code := by omega
    go_enter Tryd.func19, Tryd.ntmps19
    go_wp2_with (first | (go_at_call 52; go_in) | fail)
    refine (Nm.fmt_any _ _ h0 h1).mono ?_
    rintro e w1 ⟨rfl, hb⟩
    have Hb := Lib.hid hb
    clear hb
    go_wp2
    go_ret
    exact ⟨Nm.ret_str Ht.out.symm, Below.trans (by go_grown) (Hb.out.mono (by simp; try omega))⟩
theorem spec_any (kind code : Int) (w : World) (h0 : -9223372036854775808 ≤ code) (h1 : code ≤ 9223372036854775807) :
    Calls Tryd.prog 19 #[.int .i64 kind, .int .i64 code] w fun e w' => e = .returned (.string (codeText kind code)) ∧ Below w.heap.size w w' := by
  by_cases h90 : code = 90
  · subst h90; exact spec_none kind w
  by_cases e1 : kind = 1
  · subst e1; exact spec_1 code w h0 h1 h90
  by_cases e2 : kind = 2
  · subst e2; exact spec_2 code w h0 h1 h90
  by_cases e3 : kind = 3
  · subst e3; exact spec_3 code w h0 h1 h90
  exact spec_0 kind code w h0 h1 h90 e1 e2 e3
end Go.Proofs.YtebiefhfhjgmaaaDoor.Fc
