/- FnExactFormatAccount: for every account the law returns true and it reads as before; the tables of Go's library hold what the program's text lays. No other condition. -/
import Derived.Test.YtebiefhfhjgmaaaDoorAcc
import Derived.Test.YtebiefhfhjgmaaaDoorSAccount
import Derived.Test.YtebiefhfhjgmaaaDoorOpen4
import Derived.Test.YtebiefhfhjgmaaaDoorCards
import Derived.WalkKit
import Derived.ProofKit
import Derived.OpenShut
import Derived.ShutString
import Derived.ChangeOld
namespace Go.Proofs.YtebiefhfhjgmaaaDoor.fnExactFormatAccount
set_option maxRecDepth 100000
open Go.ChangeShapes Go.WideShapes Go.ChangeAt Go.RowKit Mm Opn Bt
open Go.ChangeMaps (open_string shut_string)
set_option linter.unusedVariables false

theorem bd (a : Int) (h : (Lit.int .i64 a).wf = true) : -9223372036854775808 ≤ a ∧ a ≤ 9223372036854775807 := by
  have e1 : IntKind.i64.min = -9223372036854775808 := rfl
  have e2 : IntKind.i64.max = 9223372036854775807 := rfl
  simpa [Lit.wf, e1, e2] using h
set_option maxHeartbeats 1000000 in
theorem walk (z : List Int) (w : World) (hz : ∀ j, (Lit.int .i64 (gI z j)).wf = true) (ht : Tb.Tab w) :
    Calls Tryd.prog 6 #[.agg #[I (gI z 0), I (gI z 1), I (gI z 2), I (gI z 3), I (gI z 4), I (gI z 5), I (gI z 6), I (gI z 7)]] w fun e w' => e = .returned (.bool true) ∧ Below w.heap.size w w' := by
  have Hz := Lib.hid (fun j => bd _ (hz j))
  clear hz
  go_enter Tryd.func6, Tryd.ntmps6
  go_wp2_with fail
  refine (SAccount.to_any _ _ _ _ _ _ _ _ _).mono ?_
  rintro e w1 ⟨rfl, b1⟩
  have K1 := Lib.hid ((Blk.new w 35 #[I (gI z 0), I (gI z 1), I (gI z 2), I (gI z 3), I (gI z 4), I (gI z 5), I (gI z 6), I (gI z 7)]).below b1 (by simp))
  have B1 : Hid (Below w.heap.size w w1) := ((Below.refl _ _).alloc (Nat.le_refl _) _).trans (b1.mono (by simp))
  clear b1
  go_wp2_with fail
  refine (Fa.spec_any z _ Hz.out).mono ?_
  rintro e w2 ⟨rfl, b2⟩
  have K2 := Lib.hid (K1.out.below b2 K1.out.lt)
  have B2 := Lib.hid (B1.out.trans (b2.mono B1.out.size))
  have c0 := K2.out.cell 0
  have c1 := K2.out.cell 1
  have c2 := K2.out.cell 2
  have c3 := K2.out.cell 3
  have c4 := K2.out.cell 4
  have c5 := K2.out.cell 5
  have c6 := K2.out.cell 6
  have c7 := K2.out.cell 7
  clear b2 K1 B1
  go_wp2_with fail
  refine (SAccount.to_any _ _ _ _ _ _ _ _ _).mono ?_
  rintro e w3 ⟨rfl, b3⟩
  have B3 := Lib.hid (B2.out.trans (b3.mono B2.out.size))
  clear b3 B2 c0 c1 c2 c3 c4 c5 c6 c7 K2
  go_wp2_with fail
  refine (Fa.impl_any z _ Hz.out (Tb.tab_below ht B3.out)).mono ?_
  rintro e w4 ⟨rfl, b4⟩
  have B4 := Lib.hid (B3.out.trans (b4.mono B3.out.size))
  clear b4 B3
  go_wp2_with fail
  go_ret
  exact ⟨rfl, B4.out⟩

theorem own : ownKnob Tryd.prog.godebug = none := by kernel_rfl
theorem laidOut : laidOutB Tryd.prog = true := by kernel_rfl

set_option maxRecDepth 100000 in
theorem lifted (os : Os) (started : os.Started) (H : Type) (enc : TypeId × Value → H) :
    ReturnsInHanded {} Tryd.checked os 6 .any (fun w args => (Rows.fnExactFormatAccountSpec.pre enc Tryd.prog Tryd.f6 [] false w args ∧ laidMetH Tryd.prog Tb.laid3 w) ∧ sizedMet enc Tryd.prog Tryd.f6 (OpenSpec.ofChange Rows.fnExactFormatAccountSpec) false w args)
      (Rows.fnExactFormatAccountSpec.post enc Tryd.prog Tryd.f6 false true false false) := by
  refine returnsInHanded_of_change_and (C := Tryd.checked) (X := fun w _ => laidMetH Tryd.prog Tb.laid3 w) (fun _ _ _ hh h => h.of_heap hh) own started (by kernel_rfl) Tryd.func6
    (ChangeSpec.witness_at (enc := enc) (C := Tryd.checked) (os := os) (X := fun w _ => laidMetH Tryd.prog Tb.laid3 w) false (Tb.laidWorld os #[]) #[.agg #[.int .i64 0, .int .i64 0, .int .i64 0, .int .i64 0, .int .i64 0, .int .i64 0, .int .i64 0, .int .i64 0]] 8 rfl (by kernel_rfl) (by kernel_rfl) (by kernel_rfl) (by kernel_rfl) (by kernel_rfl) (Tb.laidWorld_met os _)) ?_
  intro W base args ds gs before hval0 hW hcnd _ hL _
  have hval : ∀ (j : Nat) t v, Tryd.f6.params[j]? = some t → args[j]? = some v → Value.okWide Tryd.prog W .any base t v := hval0
  have hW' := hW
  have ht := Tb.tab_of_laid hL
  obtain ⟨p, q, hA0, hV, rfl, hfz, hnd⟩ := hW
  have hA : DataW.TrodAll enc Tryd.prog W 0 (fun _ => true) true Tryd.f6.params.toList args.toList ds p := hA0
  rw [Tryd.params6] at hA hval
  obtain ⟨v0, vs0, d0, ds0, p0, q0, hargs, rfl, rfl, h0, r0⟩ := trodAll_cons hA
  obtain ⟨rfl, rfl, rfl⟩ := trodAll_nil r0
  obtain rfl : args = #[v0] := by cases args; simp_all
  obtain ⟨rfl, rfl⟩ := trodVars_none hV
  have k0 := h0
  have lt0 : ∀ x ∈ p0, x.block < W.heap.size := by obtain ⟨m, hm⟩ := k0; exact DataW.trod_lt m _ _ _ hm
  obtain ⟨z0, rfl, i0⟩ : ∃ z, v0 = .agg #[I (gI z 0), I (gI z 1), I (gI z 2), I (gI z 3), I (gI z 4), I (gI z 5), I (gI z 6), I (gI z 7)] ∧ ∀ j, (Lit.int .i64 (gI z j)).wf = true := by
    obtain ⟨fuel, hf⟩ := h0
    exact Opn.open_row8 Tryd.underlying35 (by kernel_rfl) (by kernel_rfl) rfl (fun j f hf => by match j, hf with | 0, hf => simp at hf; subst hf; exact Tryd.underlying3 | 1, hf => simp at hf; subst hf; exact Tryd.underlying3 | 2, hf => simp at hf; subst hf; exact Tryd.underlying3 | 3, hf => simp at hf; subst hf; exact Tryd.underlying3 | 4, hf => simp at hf; subst hf; exact Tryd.underlying3 | 5, hf => simp at hf; subst hf; exact Tryd.underlying3 | 6, hf => simp at hf; subst hf; exact Tryd.underlying3 | 7, hf => simp at hf; subst hf; exact Tryd.underlying3 | j + 8, hf => simp at hf) (hval 0 35 v0 rfl rfl) hf
  clear hA0 hval0
  refine (walk z0 W i0 ht).mono fun e W' ⟨he, bel⟩ => ?_
  subst he
  exact ⟨_, rfl, _, _, _, [], _, [], hW', trodAll_mk1 (shut_bool Tryd.underlying4 _), (trodAll_cons_mk (Below.trod laidOut (by kernel_rfl) (of_decide_eq_true (by kernel_rfl)) k0 bel lt0) trodAll_mk0), rfl, bel.frame _, fun h => by cases h⟩

theorem over : Rows.fnExactFormatAccountRow.holds Tryd.pinned (OpenSpec.ofChange Rows.fnExactFormatAccountSpec) :=
  OpenClaim.holds_of_wide 6 Tryd.f6 rfl rfl rfl rfl rfl rfl rfl ⟨rfl, rfl, rfl, rfl, rfl⟩ rfl rfl rfl rfl rfl (by kernel_rfl) Tryd.func6 (by kernel_rfl)
    (of_decide_eq_true (by kernel_rfl)) (by unfold Func.isWrapper; rw [if_neg (of_decide_eq_false (by kernel_rfl))]; exact ⟨rfl, rfl⟩)
    (fun os started H enc _ => lifted os started H enc)

theorem proved : Rows.FnExactFormatAccountCardSaid :=
  Claim7.holds_tied_plain_at .later [] [.data, .data, .data] true (true, "33c624b93f9b768f720eef7142da34c4157bfee470f90ba4a579aa51de95882b") false
    over (fun _ h => by cases h) (by kernel_rfl) (fun _ h => by cases h) fnExactFormatAccount_row_tie rfl ⟨rfl, rfl⟩ (by kernel_rfl) rfl
    (fun f fn hf hfn => by
      obtain rfl : f = 6 := Option.some.inj ((show Tryd.prog.funcNamed Rows.fnExactFormatAccountRow.func = some 6 by kernel_rfl).symm.trans hf) |>.symm
      obtain rfl : fn = Tryd.f6 := (Option.some.inj (Tryd.func6.symm.trans hfn)).symm
      exact ⟨by kernel_rfl, fun j t ht => by
        have hall : (Tryd.f6.params.toList.all fun t => !Tryd.prog.wantsStandIn t) = true := by kernel_rfl
        have hm : t ∈ Tryd.f6.params.toList := by
          rw [← Array.getElem?_toList] at ht
          exact List.mem_of_getElem? ht
        have h2 : Tryd.prog.wantsStandIn t = false := by simpa using List.all_eq_true.1 hall t hm
        exact h2⟩)
    (by kernel_rfl)
#print axioms proved
end Go.Proofs.YtebiefhfhjgmaaaDoor.fnExactFormatAccount
