/- FnExactFactsSame: for every two lists of facts the law returns true and both read as before. No condition. -/
import Derived.Test.YtebiefhfhjgmaaaFSame
import Derived.Test.YtebiefhfhjgmaaaOpen
import Derived.WalkKit
import Derived.ProofKit
import Derived.OpenShut
import Derived.ShutString
import Derived.ChangeOld
namespace Go.Proofs.Ytebiefhfhjgmaaa.fnExactFactsSame
open Go.ChangeShapes Go.WideShapes Go.ChangeAt Go.RowKit Mm Opn
open Go.ChangeMaps (open_string shut_string)
set_option linter.unusedVariables false

theorem walk (A : Option Addr) (n c : Nat) (zs : List Int) (A' : Option Addr) (n' c' : Nat) (ys : List Int) (w : World) (h : IRow w w.heap.size A n 3 zs) (hm : n ≤ maxLen) (_ : ∀ j, (Lit.int .i64 (gI zs j)).wf = true)
    (h' : IRow w w.heap.size A' n' 3 ys) (hm' : n' ≤ maxLen) (_ : ∀ j, (Lit.int .i64 (gI ys j)).wf = true) :
    Calls Try.prog 4 #[.slice A n c, .slice A' n' c'] w fun e w' => e = .returned (.bool true) ∧ Below w.heap.size w w' := by
  by_cases h1 : (1048576 : Int) < (n : Int)
  · go_enter Try.func4, Try.ntmps4
    go_wp2_with fail
    refine (SFact.szS_no _ _ _ _ _ (by omega) (by omega) hm h1).mono ?_
    rintro e w' ⟨rfl, rfl⟩
    go_wp2_with fail
    go_ret
    exact ⟨rfl, Below.refl _ _⟩
  · by_cases h2 : (1048576 : Int) - (n : Int) < (n' : Int)
    · go_enter Try.func4, Try.ntmps4
      go_wp2_with fail
      refine (SFact.szS_yes _ _ _ _ _ (by omega) (by omega)).mono ?_
      rintro e w' ⟨rfl, rfl⟩
      go_wp2_with fail
      refine (SFact.szS_no _ _ _ _ _ (by omega) (by omega) hm' h2).mono ?_
      rintro e w' ⟨rfl, rfl⟩
      go_wp2_with fail
      go_ret
      exact ⟨rfl, Below.refl _ _⟩
    · have hn : n ≤ 1048576 := by omega
      have hn' : n' ≤ 1048576 := by omega
      go_enter Try.func4, Try.ntmps4
      go_wp2_with fail
      refine (SFact.szS_yes _ _ _ _ _ (by omega) (by omega)).mono ?_
      rintro e w' ⟨rfl, rfl⟩
      go_wp2_with fail
      refine (SFact.szS_yes _ _ _ _ _ (by omega) (by omega)).mono ?_
      rintro e w' ⟨rfl, rfl⟩
      go_wp2_with fail
      refine (SFact.toS_any _ _ _ zs _ h hn).mono ?_
      rintro e w1 ⟨rfl, o1, b1⟩
      have O1 := Lib.hid o1
      have B1 := Lib.hid b1
      clear o1 b1
      go_wp2_with fail
      refine (SFact.toS_any _ _ _ ys _ ((h'.below B1.out).more B1.out.size) hn').mono ?_
      rintro e w2 ⟨rfl, o2, b2⟩
      have O1 := Lib.hid (own_below O1.out b2)
      have O2 := Lib.hid o2
      have B2 := Lib.hid (B1.out.trans (b2.mono B1.out.size))
      clear o2 b2 B1
      go_wp2_with fail
      refine (FSame.spec_any _ _ _ _ _ _ zs ys _ (.of_own O1.out (Nat.le_refl _)) (.of_own O2.out (Nat.le_refl _)) hn hn').mono ?_
      rintro e w3 ⟨rfl, b3⟩
      have B3 := Lib.hid (B2.out.trans (b3.mono B2.out.size))
      clear O1 O2 b3 B2
      go_wp2_with fail
      refine (SFact.toS_any _ _ _ zs _ ((h.below B3.out).more B3.out.size) hn).mono ?_
      rintro e w4 ⟨rfl, o4, b4⟩
      have O4 := Lib.hid o4
      have B4 := Lib.hid (B3.out.trans (b4.mono B3.out.size))
      clear o4 b4 B3
      go_wp2_with fail
      refine (SFact.toS_any _ _ _ ys _ ((h'.below B4.out).more B4.out.size) hn').mono ?_
      rintro e w5 ⟨rfl, o5, b5⟩
      have O4 := Lib.hid (own_below O4.out b5)
      have O5 := Lib.hid o5
      have B5 := Lib.hid (B4.out.trans (b5.mono B4.out.size))
      clear o5 b5 B4
      go_wp2_with fail
      refine (FSame.impl_any _ _ _ _ _ _ zs ys _ (.of_own O4.out (Nat.le_refl _)) (.of_own O5.out (Nat.le_refl _)) hn hn').mono ?_
      rintro e w6 ⟨rfl, b6⟩
      have O4 := Lib.hid (own_below O4.out b6)
      have O5 := Lib.hid (own_below O5.out b6)
      have B6 := Lib.hid (B5.out.trans (b6.mono B5.out.size))
      clear b6 B5
      go_wp2_with fail
      refine (SFact.toS_any _ _ _ zs _ ((h.below B6.out).more B6.out.size) hn).mono ?_
      rintro e w7 ⟨rfl, o7, b7⟩
      have O4 := Lib.hid (own_below O4.out b7)
      have O5 := Lib.hid (own_below O5.out b7)
      have O7 := Lib.hid o7
      have B7 := Lib.hid (B6.out.trans (b7.mono B6.out.size))
      clear o7 b7 B6
      go_wp2_with fail
      refine (SFact.eqS_same _ _ _ _ _ zs _ (.of_own O4.out (Nat.le_refl _)) (.of_own O7.out (Nat.le_refl _)) hn).mono ?_
      rintro e w8 ⟨rfl, b8⟩
      have O5 := Lib.hid (own_below O5.out b8)
      have B8 := Lib.hid (B7.out.trans (b8.mono B7.out.size))
      clear b8 B7
      go_wp2_with fail
      refine (SFact.toS_any _ _ _ ys _ ((h'.below B8.out).more B8.out.size) hn').mono ?_
      rintro e w9 ⟨rfl, o9, b9⟩
      have O5 := Lib.hid (own_below O5.out b9)
      have O9 := Lib.hid o9
      have B9 := Lib.hid (B8.out.trans (b9.mono B8.out.size))
      clear o9 b9 B8
      go_wp2_with fail
      refine (SFact.eqS_same _ _ _ _ _ ys _ (.of_own O5.out (Nat.le_refl _)) (.of_own O9.out (Nat.le_refl _)) hn').mono ?_
      rintro e w10 ⟨rfl, b10⟩
      have B10 := Lib.hid (B9.out.trans (b10.mono B9.out.size))
      clear b10 B9
      go_wp2_with fail
      go_ret
      exact ⟨rfl, B10.out⟩

theorem own : ownKnob Try.prog.godebug = none := by kernel_rfl
theorem laidOut : laidOutB Try.prog = true := by kernel_rfl

set_option maxRecDepth 100000 in
theorem lifted (os : Os) (started : os.Started) (H : Type) (enc : TypeId × Value → H) :
    ReturnsInHanded {} Try.checked os 4 .any (Rows.fnExactFactsSameSpec.pre6 enc Try.prog Try.f4 Rows.fnExactFactsSameRow.domain false) (Rows.fnExactFactsSameSpec.post enc Try.prog Try.f4 false true false false) := by
  refine returnsInHanded_of_change (C := Try.checked) own started (by kernel_rfl) Try.func4
    (ChangeSpec.witness6 (enc := enc) (C := Try.checked) false ⟨#[], #[.slice none 0 0, .slice none 0 0], []⟩ 8 (by kernel_rfl) (by kernel_rfl) (by kernel_rfl) (by kernel_rfl)) ?_
  intro W base args ds gs before hval0 hW hcnd _
  have hval : ∀ (j : Nat) t v, Try.f4.params[j]? = some t → args[j]? = some v → Value.okWide Try.prog W .any base t v := hval0
  have hW' := hW
  obtain ⟨p, q, hA0, hV, rfl, hfz, hnd⟩ := hW
  have hA : DataW.TrodAll enc Try.prog W 0 (fun _ => true) true Try.f4.params.toList args.toList ds p := hA0
  rw [Try.params4] at hA hval
  obtain ⟨v0, vs0, d0, ds0, p0, q0, hargs, rfl, rfl, h0, r0⟩ := trodAll_cons hA
  obtain ⟨v1, vs1, d1, ds1, p1, q1, rfl, rfl, rfl, h1, r1⟩ := trodAll_cons r0
  obtain ⟨rfl, rfl, rfl⟩ := trodAll_nil r1
  obtain rfl : args = #[v0, v1] := by cases args; simp_all
  obtain ⟨rfl, rfl⟩ := trodVars_none hV
  obtain ⟨A0, n0, c0, rfl⟩ := okWide_slice Try.underlying24 (hval 0 24 v0 rfl rfl)
  have k0 := h0
  have lt0 : ∀ x ∈ p0, x.block < W.heap.size := by obtain ⟨m, hm⟩ := k0; exact DataW.trod_lt m _ _ _ hm
  obtain ⟨z0, m0, w0, i0⟩ : ∃ zs, n0 ≤ maxLen ∧ IRow W W.heap.size A0 n0 3 zs ∧ ∀ j, (Lit.int .i64 (gI zs j)).wf = true := by
    obtain ⟨fuel, hf⟩ := h0
    obtain ⟨A, len, cap, zs, hcs, hl, hr, hw⟩ := open_irow Try.underlying24 Try.underlying52 (by kernel_rfl) (by kernel_rfl) (k := 3) rfl (by omega) (fun j f hf => by match j, hf with | 0, hf => simp at hf; subst hf; exact Try.underlying3 | 1, hf => simp at hf; subst hf; exact Try.underlying3 | 2, hf => simp at hf; subst hf; exact Try.underlying3 | j + 3, hf => simp at hf) hf
    simp [Value.cells] at hcs
    obtain ⟨rfl, rfl, rfl⟩ := hcs
    exact ⟨zs, hl, hr, hw⟩
  obtain ⟨A1, n1, c1, rfl⟩ := okWide_slice Try.underlying24 (hval 1 24 v1 rfl rfl)
  have k1 := h1
  have lt1 : ∀ x ∈ p1, x.block < W.heap.size := by obtain ⟨m, hm⟩ := k1; exact DataW.trod_lt m _ _ _ hm
  obtain ⟨z1, m1, w1, i1⟩ : ∃ zs, n1 ≤ maxLen ∧ IRow W W.heap.size A1 n1 3 zs ∧ ∀ j, (Lit.int .i64 (gI zs j)).wf = true := by
    obtain ⟨fuel, hf⟩ := h1
    obtain ⟨A, len, cap, zs, hcs, hl, hr, hw⟩ := open_irow Try.underlying24 Try.underlying52 (by kernel_rfl) (by kernel_rfl) (k := 3) rfl (by omega) (fun j f hf => by match j, hf with | 0, hf => simp at hf; subst hf; exact Try.underlying3 | 1, hf => simp at hf; subst hf; exact Try.underlying3 | 2, hf => simp at hf; subst hf; exact Try.underlying3 | j + 3, hf => simp at hf) hf
    simp [Value.cells] at hcs
    obtain ⟨rfl, rfl, rfl⟩ := hcs
    exact ⟨zs, hl, hr, hw⟩
  clear hA0 hval0
  refine (walk A0 n0 c0 z0 A1 n1 c1 z1 W w0 m0 i0 w1 m1 i1).mono fun e W' ⟨he, bel⟩ => ?_
  subst he
  exact ⟨_, rfl, _, _, _, [], _, [], hW', trodAll_mk1 (shut_bool Try.underlying4 _), (trodAll_cons_mk (Below.trod laidOut (by kernel_rfl) (of_decide_eq_true (by kernel_rfl)) k0 bel lt0) (trodAll_cons_mk (Below.trod laidOut (by kernel_rfl) (of_decide_eq_true (by kernel_rfl)) k1 bel lt1) trodAll_mk0)), rfl, bel.frame _, fun h => by cases h⟩

theorem over : Rows.fnExactFactsSameRow.holds Try.pinned (OpenSpec.ofChange Rows.fnExactFactsSameSpec) :=
  OpenClaim.holds_of_wide 4 Try.f4 rfl rfl rfl rfl rfl rfl rfl ⟨rfl, rfl, rfl, rfl, rfl⟩ rfl rfl rfl rfl rfl (by kernel_rfl) Try.func4 (by kernel_rfl)
    (of_decide_eq_true (by kernel_rfl)) (by unfold Func.isWrapper; first | (rw [if_pos (by decide +kernel)]; kernel_rfl) | (rw [if_neg (by decide +kernel)]; exact ⟨rfl, rfl⟩))
    (fun os started H enc _ => lifted os started H enc)

theorem proved : Rows.FnExactFactsSameSaid := over
#print axioms proved
end Go.Proofs.Ytebiefhfhjgmaaa.fnExactFactsSame
