/- FnExactScriptText: for every list of acts the law returns true and it reads as before; the tables of Go's library hold what the program's text lays. No other condition. -/
import Derived.Test.YtebiefhfhjgmaaaDoorScS
import Derived.Test.YtebiefhfhjgmaaaDoorSAct
import Derived.Test.YtebiefhfhjgmaaaDoorOpen3
import Derived.Test.YtebiefhfhjgmaaaDoorCards
import Derived.WalkKit
import Derived.ProofKit
import Derived.OpenShut
import Derived.ShutString
import Derived.ChangeOld
namespace Go.Proofs.YtebiefhfhjgmaaaDoor.fnExactScriptText
set_option maxRecDepth 100000
open Go.ChangeShapes Go.WideShapes Go.ChangeAt Go.RowKit Mm AcM Ac Fp Opn
open Go.ChangeMaps (open_string shut_string)
set_option linter.unusedVariables false

theorem sret_form {zs : List Int} {n : Nat} {w w' : World} {e : Ending} (h : Sc.SRet zs n w e w') : ∃ t b, e = .returned (.tuple #[.string t, .bool b]) ∧ ((Sc.ST zs n t ∧ b = true) ∨ ((∃ q t, q < n ∧ Ja.FT (Sc.az zs q) t false) ∧ t = ⟨#[]⟩ ∧ b = false)) ∧ Below w.heap.size w w' := by
  obtain ⟨⟨s, hs, rfl⟩ | ⟨hq, rfl⟩, hb⟩ := h
  · exact ⟨_, _, rfl, .inl ⟨hs, rfl⟩, hb⟩
  · exact ⟨_, _, rfl, .inr ⟨hq, rfl, rfl⟩, hb⟩
theorem sret_fun {zs : List Int} {n : Nat} {t t' : ByteArray} {b b' : Bool} (h : (Sc.ST zs n t ∧ b = true) ∨ ((∃ q t, q < n ∧ Ja.FT (Sc.az zs q) t false) ∧ t = ⟨#[]⟩ ∧ b = false)) (h' : (Sc.ST zs n t' ∧ b' = true) ∨ ((∃ q t, q < n ∧ Ja.FT (Sc.az zs q) t false) ∧ t' = ⟨#[]⟩ ∧ b' = false)) : t = t' ∧ b = b' := by
  rcases h with ⟨h, rfl⟩ | ⟨⟨q, u, hq, hu⟩, rfl, rfl⟩
  · rcases h' with ⟨h', rfl⟩ | ⟨⟨q, u, hq, hu⟩, rfl, rfl⟩
    · exact ⟨Sc.st_fun h h', rfl⟩
    · obtain ⟨v, hv⟩ := Sc.st_all h q hq
      exact absurd (Ja.ft_fun hv hu).2 (by decide)
  · rcases h' with ⟨h', rfl⟩ | ⟨_, rfl, rfl⟩
    · obtain ⟨v, hv⟩ := Sc.st_all h' q hq
      exact absurd (Ja.ft_fun hv hu).2 (by decide)
    · exact ⟨rfl, rfl⟩

set_option maxHeartbeats 1000000 in
theorem walk (A : Option Addr) (n c : Nat) (zs : List Int) (w : World) (h : IRow w w.heap.size A n 5 zs) (hm : n ≤ maxLen) (_ : ∀ j, (Lit.int .i64 (gI zs j)).wf = true) (ht : Tb.Tab w) :
    Calls Tryd.prog 9 #[.slice A n c] w fun e w' => e = .returned (.bool true) ∧ Below w.heap.size w w' := by
  by_cases h2 : (1048576 : Int) < (n : Int)
  · go_enter Tryd.func9, Tryd.ntmps9
    go_wp2_with fail
    refine (SAct.szS_no _ _ _ _ _ (by omega) (by omega) hm h2).mono ?_
    rintro e w' ⟨rfl, rfl⟩
    go_wp2_with fail
    go_ret
    exact ⟨rfl, Below.refl _ _⟩
  · have hn : n ≤ 1048576 := by omega
    go_enter Tryd.func9, Tryd.ntmps9
    go_wp2_with fail
    refine (SAct.szS_yes _ _ _ _ _ (by omega) (by omega)).mono ?_
    rintro e w' ⟨rfl, rfl⟩
    go_wp2_with fail
    refine (SAct.toS_any _ _ _ zs _ h hn).mono ?_
    rintro e w1 ⟨rfl, o1, b1⟩
    have B1 := Lib.hid b1
    have Oa := Lib.hid o1
    clear o1 b1
    go_wp2_with fail
    refine (Sc.spec_any _ _ _ zs _ (IRow.of_own Oa.out (Nat.le_refl _)) hn).mono ?_
    rintro e w2 hr
    obtain ⟨t, b, rfl, hf, b2⟩ := sret_form hr
    have Hf := Lib.hid hf
    have B2 := Lib.hid (B1.out.trans (b2.mono B1.out.size))
    clear hr hf b2 B1 Oa
    go_wp2_with fail
    refine (SAct.toS_any _ _ _ zs _ ((h.below B2.out).more B2.out.size) hn).mono ?_
    rintro e w3 ⟨rfl, o3, b3⟩
    have Ox := Lib.hid o3
    have B3 := Lib.hid (B2.out.trans (b3.mono B2.out.size))
    clear o3 b3 B2
    go_wp2_with fail
    refine (Sc.impl_any _ _ _ zs _ (IRow.of_own Ox.out (Nat.le_refl _)) hn (Tb.tab_below ht B3.out)).mono ?_
    rintro e w4 hr
    obtain ⟨t', b', rfl, hf', b4⟩ := sret_form hr
    have Ox := Lib.hid (own_below Ox.out b4)
    have B4 := Lib.hid (B3.out.trans (b4.mono B3.out.size))
    obtain ⟨rfl, rfl⟩ := sret_fun Hf.out hf'
    clear hr hf' b4 B3 Hf
    cases b
    all_goals
      go_wp2_with fail
      refine (SAct.toS_any _ _ _ zs _ ((h.below B4.out).more B4.out.size) hn).mono ?_
      rintro e w5 ⟨rfl, o5, b5⟩
      have Ox := Lib.hid (own_below Ox.out b5)
      have Oy := Lib.hid o5
      have B5 := Lib.hid (B4.out.trans (b5.mono B4.out.size))
      clear o5 b5 B4
      go_wp2_with fail
      refine (SAct.eqS_same _ _ _ _ _ zs _ (.of_own Ox.out (Nat.le_refl _)) (.of_own Oy.out (Nat.le_refl _)) hn).mono ?_
      rintro e w6 ⟨rfl, b6⟩
      have B6 := Lib.hid (B5.out.trans (b6.mono B5.out.size))
      clear b6 B5
      go_wp2_with fail
      go_ret
      exact ⟨rfl, B6.out⟩

theorem own : ownKnob Tryd.prog.godebug = none := by kernel_rfl
theorem laidOut : laidOutB Tryd.prog = true := by kernel_rfl

set_option maxRecDepth 100000 in
theorem lifted (os : Os) (started : os.Started) (H : Type) (enc : TypeId × Value → H) :
    ReturnsInHanded {} Tryd.checked os 9 .any (fun w args => (Rows.fnExactScriptTextSpec.pre enc Tryd.prog Tryd.f9 [] false w args ∧ laidMetH Tryd.prog Tb.laid3 w) ∧ sizedMet enc Tryd.prog Tryd.f9 (OpenSpec.ofChange Rows.fnExactScriptTextSpec) false w args)
      (Rows.fnExactScriptTextSpec.post enc Tryd.prog Tryd.f9 false true false false) := by
  refine returnsInHanded_of_change_and (C := Tryd.checked) (X := fun w _ => laidMetH Tryd.prog Tb.laid3 w) (fun _ _ _ hh h => h.of_heap hh) own started (by kernel_rfl) Tryd.func9
    (ChangeSpec.witness_at (enc := enc) (C := Tryd.checked) (os := os) (X := fun w _ => laidMetH Tryd.prog Tb.laid3 w) false (Tb.laidWorld os #[]) #[.slice none 0 0] 8 rfl (by kernel_rfl) (by kernel_rfl) (by kernel_rfl) (by kernel_rfl) (by kernel_rfl) (Tb.laidWorld_met os _)) ?_
  intro W base args ds gs before hval0 hW hcnd _ hL _
  have hval : ∀ (j : Nat) t v, Tryd.f9.params[j]? = some t → args[j]? = some v → Value.okWide Tryd.prog W .any base t v := hval0
  have hW' := hW
  have ht := Tb.tab_of_laid hL
  obtain ⟨p, q, hA0, hV, rfl, hfz, hnd⟩ := hW
  have hA : DataW.TrodAll enc Tryd.prog W 0 (fun _ => true) true Tryd.f9.params.toList args.toList ds p := hA0
  rw [Tryd.params9] at hA hval
  obtain ⟨v0, vs0, d0, ds0, p0, q0, hargs, rfl, rfl, h0, r0⟩ := trodAll_cons hA
  obtain ⟨rfl, rfl, rfl⟩ := trodAll_nil r0
  obtain rfl : args = #[v0] := by cases args; simp_all
  obtain ⟨rfl, rfl⟩ := trodVars_none hV
  obtain ⟨A0, n0, c0, rfl⟩ := okWide_slice Tryd.underlying49 (hval 0 49 v0 rfl rfl)
  have k0 := h0
  have lt0 : ∀ x ∈ p0, x.block < W.heap.size := by obtain ⟨m, hm⟩ := k0; exact DataW.trod_lt m _ _ _ hm
  obtain ⟨z0, m0, w0, i0⟩ : ∃ zs, n0 ≤ maxLen ∧ IRow W W.heap.size A0 n0 5 zs ∧ ∀ j, (Lit.int .i64 (gI zs j)).wf = true := by
    obtain ⟨fuel, hf⟩ := h0
    obtain ⟨A, len, cap, zs, hcs, hl, hr, hw⟩ := open_irow Tryd.underlying49 Tryd.underlying41 (by kernel_rfl) (by kernel_rfl) (k := 5) rfl (by omega) (fun j f hf => by match j, hf with | 0, hf => simp at hf; subst hf; exact Tryd.underlying3 | 1, hf => simp at hf; subst hf; exact Tryd.underlying3 | 2, hf => simp at hf; subst hf; exact Tryd.underlying3 | 3, hf => simp at hf; subst hf; exact Tryd.underlying3 | 4, hf => simp at hf; subst hf; exact Tryd.underlying3 | j + 5, hf => simp at hf) hf
    simp [Value.cells] at hcs
    obtain ⟨rfl, rfl, rfl⟩ := hcs
    exact ⟨zs, hl, hr, hw⟩
  clear hA0 hval0
  refine (walk A0 n0 c0 z0 W w0 m0 i0 ht).mono fun e W' ⟨he, bel⟩ => ?_
  subst he
  exact ⟨_, rfl, _, _, _, [], _, [], hW', trodAll_mk1 (shut_bool Tryd.underlying4 _), (trodAll_cons_mk (Below.trod laidOut (by kernel_rfl) (of_decide_eq_true (by kernel_rfl)) k0 bel lt0) trodAll_mk0), rfl, bel.frame _, fun h => by cases h⟩

theorem over : Rows.fnExactScriptTextRow.holds Tryd.pinned (OpenSpec.ofChange Rows.fnExactScriptTextSpec) :=
  OpenClaim.holds_of_wide 9 Tryd.f9 rfl rfl rfl rfl rfl rfl rfl ⟨rfl, rfl, rfl, rfl, rfl⟩ rfl rfl rfl rfl rfl (by kernel_rfl) Tryd.func9 (by kernel_rfl)
    (of_decide_eq_true (by kernel_rfl)) (by unfold Func.isWrapper; rw [if_neg (of_decide_eq_false (by kernel_rfl))]; exact ⟨rfl, rfl⟩)
    (fun os started H enc _ => lifted os started H enc)

theorem proved : Rows.FnExactScriptTextCardSaid :=
  Claim7.holds_tied_plain_at .later [] [.data, .data, .data] true (true, "33c624b93f9b768f720eef7142da34c4157bfee470f90ba4a579aa51de95882b") false
    over (fun _ h => by cases h) (by kernel_rfl) (fun _ h => by cases h) fnExactScriptText_row_tie rfl ⟨rfl, rfl⟩ (by kernel_rfl) rfl
    (fun f fn hf hfn => by
      obtain rfl : f = 9 := Option.some.inj ((show Tryd.prog.funcNamed Rows.fnExactScriptTextRow.func = some 9 by kernel_rfl).symm.trans hf) |>.symm
      obtain rfl : fn = Tryd.f9 := (Option.some.inj (Tryd.func9.symm.trans hfn)).symm
      exact ⟨by kernel_rfl, fun j t ht => by
        have hall : (Tryd.f9.params.toList.all fun t => !Tryd.prog.wantsStandIn t) = true := by kernel_rfl
        have hm : t ∈ Tryd.f9.params.toList := by
          rw [← Array.getElem?_toList] at ht
          exact List.mem_of_getElem? ht
        have h2 : Tryd.prog.wantsStandIn t = false := by simpa using List.all_eq_true.1 hall t hm
        exact h2⟩)
    (by kernel_rfl)
#print axioms proved
end Go.Proofs.YtebiefhfhjgmaaaDoor.fnExactScriptText
