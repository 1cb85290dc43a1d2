/- FnExactWithoutMesh: for every list of acts the law returns true and the list reads as before. No condition. -/
import Derived.Test.YtebiefhfhjgmaaaWithoutI
import Derived.Test.YtebiefhfhjgmaaaOpen2
import Derived.WalkKit
import Derived.ProofKit
import Derived.OpenShut
import Derived.ShutString
import Derived.ChangeOld
namespace Go.Proofs.Ytebiefhfhjgmaaa.fnExactWithoutMesh
open Go.ChangeShapes Go.WideShapes Go.ChangeAt Go.RowKit Mm Opn Wom
open Go.ChangeMaps (open_string shut_string)
set_option linter.unusedVariables false

set_option maxHeartbeats 1000000 in
theorem walk (A : Option Addr) (n c : Nat) (zs : List Int) (w : World) (h : IRow w w.heap.size A n 5 zs) (hm : n ≤ maxLen) (_ : ∀ j, (Lit.int .i64 (gI zs j)).wf = true) :
    Calls Try.prog 6 #[.slice A n c] w fun e w' => e = .returned (.bool true) ∧ Below w.heap.size w w' := by
  by_cases h2 : (1048576 : Int) < (n : Int)
  · go_enter Try.func6, Try.ntmps6
    go_wp2_with fail
    refine (SAct.szS_no _ _ _ _ _ (by omega) (by omega) hm h2).mono ?_
    rintro e w' ⟨rfl, rfl⟩
    go_wp2_with fail
    go_ret
    exact ⟨rfl, Below.refl _ _⟩
  · have hn : n ≤ 1048576 := by omega
    have hr : cntA zs n ≤ 1048576 := Nat.le_trans (cntA_le zs n) hn
    go_enter Try.func6, Try.ntmps6
    go_wp2_with fail
    refine (SAct.szS_yes _ _ _ _ _ (by omega) (by omega)).mono ?_
    rintro e w' ⟨rfl, rfl⟩
    go_wp2_with fail
    refine (SAct.toS_any _ _ _ zs _ h hn).mono ?_
    rintro e w1 ⟨rfl, o1, b1⟩
    have B1 := Lib.hid b1
    have Oa := Lib.hid o1
    clear o1 b1
    go_wp2_with fail
    refine (spec_any _ _ _ zs _ (IRow.of_own Oa.out (Nat.le_refl _)) hn).mono ?_
    rintro e w2 ⟨AW, cW, rfl, o2, b2⟩
    have NaW := Lib.hid (own_ne o2 Oa.out (Nat.le_refl _))
    have Oa := Lib.hid (own_below Oa.out b2)
    have B2 := Lib.hid (B1.out.trans (b2.mono B1.out.size))
    have OW := Lib.hid (own_mono o2 B1.out.size)
    clear o2 b2 B1
    go_wp2_with fail
    refine (SAct.toS_any _ _ _ zs _ ((h.below B2.out).more B2.out.size) hn).mono ?_
    rintro e w3 ⟨rfl, o3, b3⟩
    have NWx := Lib.hid (own_ne o3 OW.out (Nat.le_refl _))
    have OW := Lib.hid (own_below OW.out b3)
    have B3 := Lib.hid (B2.out.trans (b3.mono B2.out.size))
    have Ox := Lib.hid (own_mono o3 B2.out.size)
    clear o3 b3 B2
    go_wp2_with fail
    refine (impl_any _ _ _ _ zs _ (IRow.of_own Ox.out (Nat.le_refl _)) hn).mono ?_
    rintro e w4 ⟨AG, cG, rfl, o4, b4⟩
    have NWG := Lib.hid (own_ne o4 OW.out (Nat.le_refl _))
    have NxG := Lib.hid (own_ne o4 Ox.out (Nat.le_refl _))
    have OW := Lib.hid (own_below OW.out b4)
    have Ox := Lib.hid (own_below Ox.out b4)
    have B4 := Lib.hid (B3.out.trans (b4.mono B3.out.size))
    have OG := Lib.hid (own_mono o4 B3.out.size)
    clear o4 b4 B3
    go_wp2_with fail
    refine (SAct.eqS_same _ _ _ _ _ (keepA zs n) _ (IRow.of_own OG.out (Nat.le_refl _)) (IRow.of_own OW.out (Nat.le_refl _)) hr).mono ?_
    rintro e w5 ⟨rfl, b5⟩
    have OW := Lib.hid (own_below OW.out b5)
    have Ox := Lib.hid (own_below Ox.out b5)
    have OG := Lib.hid (own_below OG.out b5)
    have B5 := Lib.hid (B4.out.trans (b5.mono B4.out.size))
    clear b5 B4
    go_wp2_with fail
    refine (SAct.toS_any _ _ _ zs _ ((h.below B5.out).more B5.out.size) hn).mono ?_
    rintro e w6 ⟨rfl, o6, b6⟩
    have NWp := Lib.hid (own_ne o6 OW.out (Nat.le_refl _))
    have Nxp := Lib.hid (own_ne o6 Ox.out (Nat.le_refl _))
    have NGp := Lib.hid (own_ne o6 OG.out (Nat.le_refl _))
    have OW := Lib.hid (own_below OW.out b6)
    have Ox := Lib.hid (own_below Ox.out b6)
    have OG := Lib.hid (own_below OG.out b6)
    have B6 := Lib.hid (B5.out.trans (b6.mono B5.out.size))
    have Op := Lib.hid (own_mono o6 B5.out.size)
    clear o6 b6 B5
    go_wp2_with fail
    refine (SAct.eqS_same _ _ _ _ _ zs _ (IRow.of_own Ox.out (Nat.le_refl _)) (IRow.of_own Op.out (Nat.le_refl _)) hn).mono ?_
    rintro e w7 ⟨rfl, b7⟩
    have OW := Lib.hid (own_below OW.out b7)
    have Ox := Lib.hid (own_below Ox.out b7)
    have OG := Lib.hid (own_below OG.out b7)
    have B7 := Lib.hid (B6.out.trans (b7.mono B6.out.size))
    clear b7 B6
    go_wp2_with fail
    refine (SAct.markS_any _ _ _ _ zs _ _ Ox.out (by omega) (by omega)).mono ?_
    rintro e w8 ⟨rfl, o8, g8⟩
    have OW := Lib.hid (own_other OW.out g8 NWx.out)
    have OG := Lib.hid (own_other OG.out g8 (ne_symm NxG.out))
    have B8 := Lib.hid (below_own B7.out Ox.out g8 (Nat.le_refl _))
    have Ox := Lib.hid o8
    clear o8 g8 B7
    go_wp2_with fail
    refine (SAct.eqS_same _ _ _ _ _ (keepA zs n) _ (IRow.of_own OG.out (Nat.le_refl _)) (IRow.of_own OW.out (Nat.le_refl _)) hr).mono ?_
    rintro e w9 ⟨rfl, b9⟩
    have OW := Lib.hid (own_below OW.out b9)
    have OG := Lib.hid (own_below OG.out b9)
    have B9 := Lib.hid (B8.out.trans (b9.mono B8.out.size))
    clear b9 B8
    go_wp2_with fail
    refine (SAct.markS_any _ _ _ _ (keepA zs n) _ _ OG.out (by omega) (by omega)).mono ?_
    rintro e w10 ⟨rfl, o10, g10⟩
    have OW := Lib.hid (own_other OW.out g10 NWG.out)
    have B10 := Lib.hid (below_own B9.out OG.out g10 (Nat.le_refl _))
    have OG := Lib.hid o10
    clear o10 g10 B9
    go_wp2_with fail
    refine (SAct.heldS_any _ _ _ _ _ (IRow.of_own OG.out (Nat.le_refl _)) (by omega) (by omega)).mono ?_
    rintro e w' ⟨rfl, rfl⟩
    go_wp2_with fail
    refine (SAct.toS_any _ _ _ zs _ ((h.below B10.out).more B10.out.size) hn).mono ?_
    rintro e w11 ⟨rfl, o11, b11⟩
    have NWr := Lib.hid (own_ne o11 OW.out (Nat.le_refl _))
    have NGr := Lib.hid (own_ne o11 OG.out (Nat.le_refl _))
    have OW := Lib.hid (own_below OW.out b11)
    have OG := Lib.hid (own_below OG.out b11)
    have B11 := Lib.hid (B10.out.trans (b11.mono B10.out.size))
    have Or := Lib.hid (own_mono o11 B10.out.size)
    clear o11 b11 B10
    go_wp2_with fail
    refine (impl_any _ _ _ _ zs _ (IRow.of_own Or.out (Nat.le_refl _)) hn).mono ?_
    rintro e w12 ⟨AH, cH, rfl, o12, b12⟩
    have NWH := Lib.hid (own_ne o12 OW.out (Nat.le_refl _))
    have NGH := Lib.hid (own_ne o12 OG.out (Nat.le_refl _))
    have NrH := Lib.hid (own_ne o12 Or.out (Nat.le_refl _))
    have OW := Lib.hid (own_below OW.out b12)
    have OG := Lib.hid (own_below OG.out b12)
    have Or := Lib.hid (own_below Or.out b12)
    have B12 := Lib.hid (B11.out.trans (b12.mono B11.out.size))
    have OH := Lib.hid (own_mono o12 B11.out.size)
    clear o12 b12 B11
    go_wp2_with fail
    refine (SAct.eqS_same _ _ _ _ _ (keepA zs n) _ (IRow.of_own OH.out (Nat.le_refl _)) (IRow.of_own OW.out (Nat.le_refl _)) hr).mono ?_
    rintro e w13 ⟨rfl, b13⟩
    have OW := Lib.hid (own_below OW.out b13)
    have OG := Lib.hid (own_below OG.out b13)
    have OH := Lib.hid (own_below OH.out b13)
    have B13 := Lib.hid (B12.out.trans (b13.mono B12.out.size))
    clear b13 B12
    go_wp2_with fail
    refine (SAct.heldS_any _ _ _ _ _ (IRow.of_own OG.out (Nat.le_refl _)) (by omega) (by omega)).mono ?_
    rintro e w' ⟨rfl, rfl⟩
    go_wp2_with fail
    go_ret
    exact ⟨rfl, B13.out⟩

theorem own : ownKnob Try.prog.godebug = none := by kernel_rfl
theorem laidOut : laidOutB Try.prog = true := by kernel_rfl

set_option maxRecDepth 100000 in
theorem lifted (os : Os) (started : os.Started) (H : Type) (enc : TypeId × Value → H) :
    ReturnsInHanded {} Try.checked os 6 .any (Rows.fnExactWithoutMeshSpec.pre6 enc Try.prog Try.f6 Rows.fnExactWithoutMeshRow.domain false) (Rows.fnExactWithoutMeshSpec.post enc Try.prog Try.f6 false true false false) := by
  refine returnsInHanded_of_change (C := Try.checked) own started (by kernel_rfl) Try.func6
    (ChangeSpec.witness6 (enc := enc) (C := Try.checked) false ⟨#[], #[.slice none 0 0], []⟩ 8 (by kernel_rfl) (by kernel_rfl) (by kernel_rfl) (by kernel_rfl)) ?_
  intro W base args ds gs before hval0 hW hcnd _
  have hval : ∀ (j : Nat) t v, Try.f6.params[j]? = some t → args[j]? = some v → Value.okWide Try.prog W .any base t v := hval0
  have hW' := hW
  obtain ⟨p, q, hA0, hV, rfl, hfz, hnd⟩ := hW
  have hA : DataW.TrodAll enc Try.prog W 0 (fun _ => true) true Try.f6.params.toList args.toList ds p := hA0
  rw [Try.params6] at hA hval
  obtain ⟨v0, vs0, d0, ds0, p0, q0, hargs, rfl, rfl, h0, r0⟩ := trodAll_cons hA
  obtain ⟨rfl, rfl, rfl⟩ := trodAll_nil r0
  obtain rfl : args = #[v0] := by cases args; simp_all
  obtain ⟨rfl, rfl⟩ := trodVars_none hV
  obtain ⟨A0, n0, c0, rfl⟩ := okWide_slice Try.underlying30 (hval 0 30 v0 rfl rfl)
  have k0 := h0
  have lt0 : ∀ x ∈ p0, x.block < W.heap.size := by obtain ⟨m, hm⟩ := k0; exact DataW.trod_lt m _ _ _ hm
  obtain ⟨z0, m0, w0, i0⟩ : ∃ zs, n0 ≤ maxLen ∧ IRow W W.heap.size A0 n0 5 zs ∧ ∀ j, (Lit.int .i64 (gI zs j)).wf = true := by
    obtain ⟨fuel, hf⟩ := h0
    obtain ⟨A, len, cap, zs, hcs, hl, hr, hw⟩ := open_irow Try.underlying30 Try.underlying56 (by kernel_rfl) (by kernel_rfl) (k := 5) rfl (by omega) (fun j f hf => by match j, hf with | 0, hf => simp at hf; subst hf; exact Try.underlying3 | 1, hf => simp at hf; subst hf; exact Try.underlying3 | 2, hf => simp at hf; subst hf; exact Try.underlying3 | 3, hf => simp at hf; subst hf; exact Try.underlying3 | 4, hf => simp at hf; subst hf; exact Try.underlying3 | j + 5, hf => simp at hf) hf
    simp [Value.cells] at hcs
    obtain ⟨rfl, rfl, rfl⟩ := hcs
    exact ⟨zs, hl, hr, hw⟩
  clear hA0 hval0
  refine (walk A0 n0 c0 z0 W w0 m0 i0).mono fun e W' ⟨he, bel⟩ => ?_
  subst he
  exact ⟨_, rfl, _, _, _, [], _, [], hW', trodAll_mk1 (shut_bool Try.underlying4 _), (trodAll_cons_mk (Below.trod laidOut (by kernel_rfl) (of_decide_eq_true (by kernel_rfl)) k0 bel lt0) trodAll_mk0), rfl, bel.frame _, fun h => by cases h⟩

theorem over : Rows.fnExactWithoutMeshRow.holds Try.pinned (OpenSpec.ofChange Rows.fnExactWithoutMeshSpec) :=
  OpenClaim.holds_of_wide 6 Try.f6 rfl rfl rfl rfl rfl rfl rfl ⟨rfl, rfl, rfl, rfl, rfl⟩ rfl rfl rfl rfl rfl (by kernel_rfl) Try.func6 (by kernel_rfl)
    (of_decide_eq_true (by kernel_rfl)) (by unfold Func.isWrapper; first | (rw [if_pos (by decide +kernel)]; kernel_rfl) | (rw [if_neg (by decide +kernel)]; exact ⟨rfl, rfl⟩))
    (fun os started H enc _ => lifted os started H enc)

theorem proved : Rows.FnExactWithoutMeshSaid := over
#print axioms proved
end Go.Proofs.Ytebiefhfhjgmaaa.fnExactWithoutMesh
