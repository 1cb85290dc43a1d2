/- FnExactCodesWithoutMesh: for every list of acts and of codes the law returns true and both read as before. No condition. -/
import Derived.Test.YtebiefhfhjgmaaaCodes
import Derived.Test.YtebiefhfhjgmaaaMem2
import Derived.Test.YtebiefhfhjgmaaaOpen2
import Derived.WalkKit
import Derived.ProofKit
import Derived.OpenShut
import Derived.ShutString
import Derived.ChangeOld
namespace Go.Proofs.Ytebiefhfhjgmaaa.fnExactCodesWithoutMesh
open Go.ChangeShapes Go.WideShapes Go.ChangeAt Go.RowKit Mm Opn
open Go.ChangeMaps (open_string shut_string)
set_option linter.unusedVariables false

def res (n m : Nat) (zs cs : List Int) : List Int := if n = m then Codes.keepC zs cs n else []
theorem res_le (n m : Nat) (zs cs : List Int) (hn : n ≤ 1048576) : (res n m zs cs).length ≤ 1048576 := by
  unfold res
  split
  · exact Nat.le_trans (Codes.keepC_le _ _ _) hn
  · simp
theorem spec_ret (A A' : Option Addr) (n m c c' : Nat) (zs cs : List Int) (w : World) (h : IRow w w.heap.size A n 5 zs) (h' : IRow w w.heap.size A' m 1 cs) (hn : n ≤ 1048576) (hm : m ≤ 1048576) :
    Calls Try.prog 16 #[.slice A n c, .slice A' m c'] w (OwnRet w 3 1 (res n m zs cs).length (res n m zs cs)) := by
  have h0 := Codes.spec_any A A' n m c c' zs cs w h h' hn hm
  unfold res
  by_cases e : n = m
  · rw [if_pos e]; rw [if_pos e] at h0; exact h0
  · rw [if_neg e]; rw [if_neg e] at h0; exact h0
theorem impl_ret (A A' : Option Addr) (n m c c' : Nat) (zs cs : List Int) (w : World) (h : IRow w w.heap.size A n 5 zs) (h' : IRow w w.heap.size A' m 1 cs) (hn : n ≤ 1048576) (hm : m ≤ 1048576) :
    Calls Try.prog 19 #[.slice A n c, .slice A' m c'] w (OwnRet w 3 1 (res n m zs cs).length (res n m zs cs)) := by
  have h0 := Codes.impl_any A A' n m c c' zs cs w h h' hn hm
  unfold res
  by_cases e : n = m
  · rw [if_pos e]; rw [if_pos e] at h0; exact h0
  · rw [if_neg e]; rw [if_neg e] at h0; exact h0

set_option maxHeartbeats 1000000 in
theorem walk (A : Option Addr) (n c : Nat) (zs : List Int) (A' : Option Addr) (m c' : Nat) (cs : List Int) (w : World) (h : IRow w w.heap.size A n 5 zs) (hm : n ≤ maxLen) (_ : ∀ j, (Lit.int .i64 (gI zs j)).wf = true)
    (h' : IRow w w.heap.size A' m 1 cs) (hm' : m ≤ maxLen) (_ : ∀ j, (Lit.int .i64 (gI cs j)).wf = true) :
    Calls Try.prog 5 #[.slice A n c, .slice A' m c'] w fun e w' => e = .returned (.bool true) ∧ Below w.heap.size w w' := by
  have hm1 := hm'
  unfold maxLen at hm1
  by_cases h1 : (1048576 : Int) < (m : Int)
  · go_enter Try.func5, Try.ntmps5
    go_wp2
    go_ret
    exact ⟨rfl, Below.refl _ _⟩
  · by_cases h2 : (1048576 : Int) < (n : Int)
    · go_enter Try.func5, Try.ntmps5
      go_wp2_with fail
      refine (SAct.szS_no _ _ _ _ _ (by omega) (by omega) hm h2).mono ?_
      rintro e w' ⟨rfl, rfl⟩
      go_wp2_with fail
      go_ret
      exact ⟨rfl, Below.refl _ _⟩
    · have hn : n ≤ 1048576 := by omega
      have hn' : m ≤ 1048576 := by omega
      have hr := res_le n m zs cs hn
      go_enter Try.func5, Try.ntmps5
      go_wp2_with fail
      refine (SAct.szS_yes _ _ _ _ _ (by omega) (by omega)).mono ?_
      rintro e w' ⟨rfl, rfl⟩
      go_wp2_with fail
      refine (SAct.toS_any _ _ _ zs _ h hn).mono ?_
      rintro e w1 ⟨rfl, o1, b1⟩
      have B1 := Lib.hid b1
      have Oa := Lib.hid o1
      clear o1 b1
      go_wp2_with fail
      refine (SInt.toS_any _ _ _ cs _ ((h'.below B1.out).more B1.out.size) hn').mono ?_
      rintro e w2 ⟨rfl, o2, b2⟩
      have Nab := Lib.hid (own_ne o2 Oa.out (Nat.le_refl _))
      have Oa := Lib.hid (own_below Oa.out b2)
      have B2 := Lib.hid (B1.out.trans (b2.mono B1.out.size))
      have Ob := Lib.hid (own_mono o2 B1.out.size)
      clear o2 b2 B1
      go_wp2_with fail
      refine (spec_ret _ _ _ _ _ _ zs cs _ (IRow.of_own Oa.out (Nat.le_refl _)) (IRow.of_own Ob.out (Nat.le_refl _)) hn hn').mono ?_
      rintro e w3 ⟨AW, cW, rfl, o3, b3⟩
      have NaW := Lib.hid (own_ne o3 Oa.out (Nat.le_refl _))
      have NbW := Lib.hid (own_ne o3 Ob.out (Nat.le_refl _))
      have Oa := Lib.hid (own_below Oa.out b3)
      have Ob := Lib.hid (own_below Ob.out b3)
      have B3 := Lib.hid (B2.out.trans (b3.mono B2.out.size))
      have OW := Lib.hid (own_mono o3 B2.out.size)
      clear o3 b3 B2
      go_wp2_with fail
      refine (SAct.toS_any _ _ _ zs _ ((h.below B3.out).more B3.out.size) hn).mono ?_
      rintro e w4 ⟨rfl, o4, b4⟩
      have NWx := Lib.hid (own_ne o4 OW.out (Nat.le_refl _))
      have OW := Lib.hid (own_below OW.out b4)
      have B4 := Lib.hid (B3.out.trans (b4.mono B3.out.size))
      have Ox := Lib.hid (own_mono o4 B3.out.size)
      clear o4 b4 B3
      go_wp2_with fail
      refine (SInt.toS_any _ _ _ cs _ ((h'.below B4.out).more B4.out.size) hn').mono ?_
      rintro e w5 ⟨rfl, o5, b5⟩
      have NWy := Lib.hid (own_ne o5 OW.out (Nat.le_refl _))
      have Nxy := Lib.hid (own_ne o5 Ox.out (Nat.le_refl _))
      have OW := Lib.hid (own_below OW.out b5)
      have Ox := Lib.hid (own_below Ox.out b5)
      have B5 := Lib.hid (B4.out.trans (b5.mono B4.out.size))
      have Oy := Lib.hid (own_mono o5 B4.out.size)
      clear o5 b5 B4
      go_wp2_with fail
      refine (impl_ret _ _ _ _ _ _ zs cs _ (IRow.of_own Ox.out (Nat.le_refl _)) (IRow.of_own Oy.out (Nat.le_refl _)) hn hn').mono ?_
      rintro e w6 ⟨AG, cG, rfl, o6, b6⟩
      have NWG := Lib.hid (own_ne o6 OW.out (Nat.le_refl _))
      have NxG := Lib.hid (own_ne o6 Ox.out (Nat.le_refl _))
      have NyG := Lib.hid (own_ne o6 Oy.out (Nat.le_refl _))
      have OW := Lib.hid (own_below OW.out b6)
      have Ox := Lib.hid (own_below Ox.out b6)
      have Oy := Lib.hid (own_below Oy.out b6)
      have B6 := Lib.hid (B5.out.trans (b6.mono B5.out.size))
      have OG := Lib.hid (own_mono o6 B5.out.size)
      clear o6 b6 B5
      go_wp2_with fail
      refine (SInt.eqS_same _ _ _ _ _ (res n m zs cs) _ (IRow.of_own OG.out (Nat.le_refl _)) (IRow.of_own OW.out (Nat.le_refl _)) hr).mono ?_
      rintro e w7 ⟨rfl, b7⟩
      have OW := Lib.hid (own_below OW.out b7)
      have Ox := Lib.hid (own_below Ox.out b7)
      have Oy := Lib.hid (own_below Oy.out b7)
      have OG := Lib.hid (own_below OG.out b7)
      have B7 := Lib.hid (B6.out.trans (b7.mono B6.out.size))
      clear b7 B6
      go_wp2_with fail
      refine (SAct.toS_any _ _ _ zs _ ((h.below B7.out).more B7.out.size) hn).mono ?_
      rintro e w8 ⟨rfl, o8, b8⟩
      have NWp := Lib.hid (own_ne o8 OW.out (Nat.le_refl _))
      have Nxp := Lib.hid (own_ne o8 Ox.out (Nat.le_refl _))
      have Nyp := Lib.hid (own_ne o8 Oy.out (Nat.le_refl _))
      have NGp := Lib.hid (own_ne o8 OG.out (Nat.le_refl _))
      have OW := Lib.hid (own_below OW.out b8)
      have Ox := Lib.hid (own_below Ox.out b8)
      have Oy := Lib.hid (own_below Oy.out b8)
      have OG := Lib.hid (own_below OG.out b8)
      have B8 := Lib.hid (B7.out.trans (b8.mono B7.out.size))
      have Op := Lib.hid (own_mono o8 B7.out.size)
      clear o8 b8 B7
      go_wp2_with fail
      refine (SAct.eqS_same _ _ _ _ _ zs _ (IRow.of_own Ox.out (Nat.le_refl _)) (IRow.of_own Op.out (Nat.le_refl _)) hn).mono ?_
      rintro e w9 ⟨rfl, b9⟩
      have OW := Lib.hid (own_below OW.out b9)
      have Ox := Lib.hid (own_below Ox.out b9)
      have Oy := Lib.hid (own_below Oy.out b9)
      have OG := Lib.hid (own_below OG.out b9)
      have B9 := Lib.hid (B8.out.trans (b9.mono B8.out.size))
      clear b9 B8
      go_wp2_with fail
      refine (SInt.toS_any _ _ _ cs _ ((h'.below B9.out).more B9.out.size) hn').mono ?_
      rintro e w10 ⟨rfl, o10, b10⟩
      have NWq := Lib.hid (own_ne o10 OW.out (Nat.le_refl _))
      have Nxq := Lib.hid (own_ne o10 Ox.out (Nat.le_refl _))
      have Nyq := Lib.hid (own_ne o10 Oy.out (Nat.le_refl _))
      have NGq := Lib.hid (own_ne o10 OG.out (Nat.le_refl _))
      have OW := Lib.hid (own_below OW.out b10)
      have Ox := Lib.hid (own_below Ox.out b10)
      have Oy := Lib.hid (own_below Oy.out b10)
      have OG := Lib.hid (own_below OG.out b10)
      have B10 := Lib.hid (B9.out.trans (b10.mono B9.out.size))
      have Oq := Lib.hid (own_mono o10 B9.out.size)
      clear o10 b10 B9
      go_wp2_with fail
      refine (SInt.eqS_same _ _ _ _ _ cs _ (IRow.of_own Oy.out (Nat.le_refl _)) (IRow.of_own Oq.out (Nat.le_refl _)) hn').mono ?_
      rintro e w11 ⟨rfl, b11⟩
      have OW := Lib.hid (own_below OW.out b11)
      have Ox := Lib.hid (own_below Ox.out b11)
      have Oy := Lib.hid (own_below Oy.out b11)
      have OG := Lib.hid (own_below OG.out b11)
      have B11 := Lib.hid (B10.out.trans (b11.mono B10.out.size))
      clear b11 B10
      go_wp2_with fail
      refine (SAct.markS_any _ _ _ _ zs _ _ Ox.out (by omega) (by omega)).mono ?_
      rintro e w12 ⟨rfl, o12, g12⟩
      have OW := Lib.hid (own_other OW.out g12 NWx.out)
      have Oy := Lib.hid (own_other Oy.out g12 (ne_symm Nxy.out))
      have OG := Lib.hid (own_other OG.out g12 (ne_symm NxG.out))
      have B12 := Lib.hid (below_own B11.out Ox.out g12 (Nat.le_refl _))
      have Ox := Lib.hid o12
      clear o12 g12 B11
      go_wp2_with fail
      refine (SInt.markS_any _ _ _ _ cs _ _ Oy.out (by omega) (by omega)).mono ?_
      rintro e w13 ⟨rfl, o13, g13⟩
      have OW := Lib.hid (own_other OW.out g13 NWy.out)
      have Ox := Lib.hid (own_other Ox.out g13 Nxy.out)
      have OG := Lib.hid (own_other OG.out g13 (ne_symm NyG.out))
      have B13 := Lib.hid (below_own B12.out Oy.out g13 (Nat.le_refl _))
      have Oy := Lib.hid o13
      clear o13 g13 B12
      go_wp2_with fail
      refine (SInt.eqS_same _ _ _ _ _ (res n m zs cs) _ (IRow.of_own OG.out (Nat.le_refl _)) (IRow.of_own OW.out (Nat.le_refl _)) hr).mono ?_
      rintro e w14 ⟨rfl, b14⟩
      have OW := Lib.hid (own_below OW.out b14)
      have OG := Lib.hid (own_below OG.out b14)
      have B14 := Lib.hid (B13.out.trans (b14.mono B13.out.size))
      clear b14 B13
      go_wp2_with fail
      refine (SInt.markS_any _ _ _ _ (res n m zs cs) _ _ OG.out (by omega) (by omega)).mono ?_
      rintro e w15 ⟨rfl, o15, g15⟩
      have OW := Lib.hid (own_other OW.out g15 NWG.out)
      have B15 := Lib.hid (below_own B14.out OG.out g15 (Nat.le_refl _))
      have OG := Lib.hid o15
      clear o15 g15 B14
      go_wp2_with fail
      refine (SInt.heldS_any _ _ _ _ _ (IRow.of_own OG.out (Nat.le_refl _)) (by omega) (by omega)).mono ?_
      rintro e w' ⟨rfl, rfl⟩
      go_wp2_with fail
      refine (SAct.toS_any _ _ _ zs _ ((h.below B15.out).more B15.out.size) hn).mono ?_
      rintro e w16 ⟨rfl, o16, b16⟩
      have NWr := Lib.hid (own_ne o16 OW.out (Nat.le_refl _))
      have NGr := Lib.hid (own_ne o16 OG.out (Nat.le_refl _))
      have OW := Lib.hid (own_below OW.out b16)
      have OG := Lib.hid (own_below OG.out b16)
      have B16 := Lib.hid (B15.out.trans (b16.mono B15.out.size))
      have Or := Lib.hid (own_mono o16 B15.out.size)
      clear o16 b16 B15
      go_wp2_with fail
      refine (SInt.toS_any _ _ _ cs _ ((h'.below B16.out).more B16.out.size) hn').mono ?_
      rintro e w17 ⟨rfl, o17, b17⟩
      have NWs := Lib.hid (own_ne o17 OW.out (Nat.le_refl _))
      have NGs := Lib.hid (own_ne o17 OG.out (Nat.le_refl _))
      have Nrs := Lib.hid (own_ne o17 Or.out (Nat.le_refl _))
      have OW := Lib.hid (own_below OW.out b17)
      have OG := Lib.hid (own_below OG.out b17)
      have Or := Lib.hid (own_below Or.out b17)
      have B17 := Lib.hid (B16.out.trans (b17.mono B16.out.size))
      have Os := Lib.hid (own_mono o17 B16.out.size)
      clear o17 b17 B16
      go_wp2_with fail
      refine (impl_ret _ _ _ _ _ _ zs cs _ (IRow.of_own Or.out (Nat.le_refl _)) (IRow.of_own Os.out (Nat.le_refl _)) hn hn').mono ?_
      rintro e w18 ⟨AH, cH, rfl, o18, b18⟩
      have NWH := Lib.hid (own_ne o18 OW.out (Nat.le_refl _))
      have NGH := Lib.hid (own_ne o18 OG.out (Nat.le_refl _))
      have NrH := Lib.hid (own_ne o18 Or.out (Nat.le_refl _))
      have NsH := Lib.hid (own_ne o18 Os.out (Nat.le_refl _))
      have OW := Lib.hid (own_below OW.out b18)
      have OG := Lib.hid (own_below OG.out b18)
      have Or := Lib.hid (own_below Or.out b18)
      have Os := Lib.hid (own_below Os.out b18)
      have B18 := Lib.hid (B17.out.trans (b18.mono B17.out.size))
      have OH := Lib.hid (own_mono o18 B17.out.size)
      clear o18 b18 B17
      go_wp2_with fail
      refine (SInt.eqS_same _ _ _ _ _ (res n m zs cs) _ (IRow.of_own OH.out (Nat.le_refl _)) (IRow.of_own OW.out (Nat.le_refl _)) hr).mono ?_
      rintro e w19 ⟨rfl, b19⟩
      have OW := Lib.hid (own_below OW.out b19)
      have OG := Lib.hid (own_below OG.out b19)
      have OH := Lib.hid (own_below OH.out b19)
      have B19 := Lib.hid (B18.out.trans (b19.mono B18.out.size))
      clear b19 B18
      go_wp2_with fail
      refine (SInt.heldS_any _ _ _ _ _ (IRow.of_own OG.out (Nat.le_refl _)) (by omega) (by omega)).mono ?_
      rintro e w' ⟨rfl, rfl⟩
      go_wp2_with fail
      go_ret
      exact ⟨rfl, B19.out⟩

theorem own : ownKnob Try.prog.godebug = none := by kernel_rfl
theorem laidOut : laidOutB Try.prog = true := by kernel_rfl

set_option maxRecDepth 100000 in
theorem lifted (os : Os) (started : os.Started) (H : Type) (enc : TypeId × Value → H) :
    ReturnsInHanded {} Try.checked os 5 .any (Rows.fnExactCodesWithoutMeshSpec.pre6 enc Try.prog Try.f5 Rows.fnExactCodesWithoutMeshRow.domain false) (Rows.fnExactCodesWithoutMeshSpec.post enc Try.prog Try.f5 false true false false) := by
  refine returnsInHanded_of_change (C := Try.checked) own started (by kernel_rfl) Try.func5
    (ChangeSpec.witness6 (enc := enc) (C := Try.checked) false ⟨#[], #[.slice none 0 0, .slice none 0 0], []⟩ 8 (by kernel_rfl) (by kernel_rfl) (by kernel_rfl) (by kernel_rfl)) ?_
  intro W base args ds gs before hval0 hW hcnd _
  have hval : ∀ (j : Nat) t v, Try.f5.params[j]? = some t → args[j]? = some v → Value.okWide Try.prog W .any base t v := hval0
  have hW' := hW
  obtain ⟨p, q, hA0, hV, rfl, hfz, hnd⟩ := hW
  have hA : DataW.TrodAll enc Try.prog W 0 (fun _ => true) true Try.f5.params.toList args.toList ds p := hA0
  rw [Try.params5] at hA hval
  obtain ⟨v0, vs0, d0, ds0, p0, q0, hargs, rfl, rfl, h0, r0⟩ := trodAll_cons hA
  obtain ⟨v1, vs1, d1, ds1, p1, q1, rfl, rfl, rfl, h1, r1⟩ := trodAll_cons r0
  obtain ⟨rfl, rfl, rfl⟩ := trodAll_nil r1
  obtain rfl : args = #[v0, v1] := by cases args; simp_all
  obtain ⟨rfl, rfl⟩ := trodVars_none hV
  obtain ⟨A0, n0, c0, rfl⟩ := okWide_slice Try.underlying30 (hval 0 30 v0 rfl rfl)
  have k0 := h0
  have lt0 : ∀ x ∈ p0, x.block < W.heap.size := by obtain ⟨m, hm⟩ := k0; exact DataW.trod_lt m _ _ _ hm
  obtain ⟨z0, m0, w0, i0⟩ : ∃ zs, n0 ≤ maxLen ∧ IRow W W.heap.size A0 n0 5 zs ∧ ∀ j, (Lit.int .i64 (gI zs j)).wf = true := by
    obtain ⟨fuel, hf⟩ := h0
    obtain ⟨A, len, cap, zs, hcs, hl, hr, hw⟩ := open_irow Try.underlying30 Try.underlying56 (by kernel_rfl) (by kernel_rfl) (k := 5) rfl (by omega) (fun j f hf => by match j, hf with | 0, hf => simp at hf; subst hf; exact Try.underlying3 | 1, hf => simp at hf; subst hf; exact Try.underlying3 | 2, hf => simp at hf; subst hf; exact Try.underlying3 | 3, hf => simp at hf; subst hf; exact Try.underlying3 | 4, hf => simp at hf; subst hf; exact Try.underlying3 | j + 5, hf => simp at hf) hf
    simp [Value.cells] at hcs
    obtain ⟨rfl, rfl, rfl⟩ := hcs
    exact ⟨zs, hl, hr, hw⟩
  obtain ⟨A1, n1, c1, rfl⟩ := okWide_slice Try.underlying31 (hval 1 31 v1 rfl rfl)
  have k1 := h1
  have lt1 : ∀ x ∈ p1, x.block < W.heap.size := by obtain ⟨m, hm⟩ := k1; exact DataW.trod_lt m _ _ _ hm
  obtain ⟨z1, m1, w1, i1⟩ : ∃ zs, n1 ≤ maxLen ∧ IRow W W.heap.size A1 n1 1 zs ∧ ∀ j, (Lit.int .i64 (gI zs j)).wf = true := by
    obtain ⟨fuel, hf⟩ := h1
    obtain ⟨A, len, cap, zs, hcs, hl, hr, hw⟩ := open_ints_row Try.underlying31 Try.underlying3 (by kernel_rfl) hf
    simp [Value.cells] at hcs
    obtain ⟨rfl, rfl, rfl⟩ := hcs
    exact ⟨zs, hl, hr, hw⟩
  clear hA0 hval0
  refine (walk A0 n0 c0 z0 A1 n1 c1 z1 W w0 m0 i0 w1 m1 i1).mono fun e W' ⟨he, bel⟩ => ?_
  subst he
  exact ⟨_, rfl, _, _, _, [], _, [], hW', trodAll_mk1 (shut_bool Try.underlying4 _), (trodAll_cons_mk (Below.trod laidOut (by kernel_rfl) (of_decide_eq_true (by kernel_rfl)) k0 bel lt0) (trodAll_cons_mk (Below.trod laidOut (by kernel_rfl) (of_decide_eq_true (by kernel_rfl)) k1 bel lt1) trodAll_mk0)), rfl, bel.frame _, fun h => by cases h⟩

theorem over : Rows.fnExactCodesWithoutMeshRow.holds Try.pinned (OpenSpec.ofChange Rows.fnExactCodesWithoutMeshSpec) :=
  OpenClaim.holds_of_wide 5 Try.f5 rfl rfl rfl rfl rfl rfl rfl ⟨rfl, rfl, rfl, rfl, rfl⟩ rfl rfl rfl rfl rfl (by kernel_rfl) Try.func5 (by kernel_rfl)
    (of_decide_eq_true (by kernel_rfl)) (by unfold Func.isWrapper; first | (rw [if_pos (by decide +kernel)]; kernel_rfl) | (rw [if_neg (by decide +kernel)]; exact ⟨rfl, rfl⟩))
    (fun os started H enc _ => lifted os started H enc)

theorem proved : Rows.FnExactCodesWithoutMeshSaid := over
#print axioms proved
end Go.Proofs.Ytebiefhfhjgmaaa.fnExactCodesWithoutMesh
