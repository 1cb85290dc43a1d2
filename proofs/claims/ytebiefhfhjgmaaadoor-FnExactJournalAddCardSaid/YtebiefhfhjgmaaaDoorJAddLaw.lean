/- FnExactJournalAdd: for every string and act the law returns true and both read as before; the tables of Go's library hold what the program's text lays. No other condition. -/
import Derived.Test.YtebiefhfhjgmaaaDoorJAdd
import Derived.Test.YtebiefhfhjgmaaaDoorSAct
import Derived.Test.YtebiefhfhjgmaaaDoorOpen3
import Derived.Test.YtebiefhfhjgmaaaDoorCards
import Derived.WalkKit
import Derived.ProofKit
import Derived.OpenShut
import Derived.ShutString
import Derived.ChangeOld
namespace Go.Proofs.YtebiefhfhjgmaaaDoor.fnExactJournalAdd
set_option maxRecDepth 100000
open Go.ChangeShapes Go.WideShapes Go.ChangeAt Go.RowKit Mm AcM Ac Fp
open Go.ChangeMaps (open_string shut_string)
set_option linter.unusedVariables false

set_option maxHeartbeats 1000000 in
theorem walk (x : ByteArray) (z : List Int) (w : World) (hx : x.size ≤ maxLen) (_ : ∀ j, (Lit.int .i64 (gI z j)).wf = true) (ht : Tb.Tab w) :
    Calls Tryd.prog 8 #[.string x, Agg z] w fun e w' => e = .returned (.bool true) ∧ Below w.heap.size w w' := by
  unfold maxLen at hx
  by_cases h : x.size ≤ 1048576
  · go_enter Tryd.func8, Tryd.ntmps8
    go_wp2_with fail
    refine (SAct.to_any _ _ _ _ _ _).mono ?_
    rintro e w1 ⟨rfl, hb1⟩
    have Hba1 : Hid (Blk w1 w.heap.size 41 #[I (gI z 0), I (gI z 1), I (gI z 2), I (gI z 3), I (gI z 4)]) := (Blk.new w _ _).below hb1 (by simp)
    have Hb1 := Lib.hid (FaS.below_in hb1)
    clear hb1
    go_wp2_with fail
    refine (Ja.spec_any x z _ h).mono ?_
    rintro e w2 ⟨⟨t, b, hf, rfl⟩, hb2⟩
    have Hb2 := Lib.hid (Hb1.out.trans (hb2.mono Hb1.out.size))
    have Hf := Lib.hid hf
    have hba := Hba1.out.below hb2 Hba1.out.lt
    have hlt := hba.lt
    have c0 : w2.cell? ⟨w.heap.size, 0, none⟩ = some (I (gI z 0)) := hba.cell 0
    have c1 : w2.cell? ⟨w.heap.size, 1, none⟩ = some (I (gI z 1)) := hba.cell 1
    have c2 : w2.cell? ⟨w.heap.size, 2, none⟩ = some (I (gI z 2)) := hba.cell 2
    have c3 : w2.cell? ⟨w.heap.size, 3, none⟩ = some (I (gI z 3)) := hba.cell 3
    have c4 : w2.cell? ⟨w.heap.size, 4, none⟩ = some (I (gI z 4)) := hba.cell 4
    clear hba Hba1 hb2 hf Hb1
    go_wp2_with fail
    refine (SAct.to_any _ _ _ _ _ _).mono ?_
    rintro e w3 ⟨rfl, hb3⟩
    have Hb3 := Lib.hid (Hb2.out.trans (hb3.mono Hb2.out.size))
    clear hb3 Hb2 c0 c1 c2 c3 c4
    go_wp2_with fail
    refine (Ja.impl_any x z _ h (Tb.tab_below ht Hb3.out)).mono ?_
    rintro e w4 ⟨⟨t', b', hf', rfl⟩, hb4⟩
    have Hb4 := Lib.hid (Hb3.out.trans (hb4.mono Hb3.out.size))
    obtain ⟨rfl, rfl⟩ := Ja.ft_fun Hf.out hf'
    clear hf' hb4 Hb3
    cases Ja.jb x t b
    all_goals
      go_wp2
      go_ret
      exact ⟨rfl, Hb4.out⟩
  · have h' : 1048576 < x.size := by omega
    go_enter Tryd.func8, Tryd.ntmps8
    go_wp2
    go_ret
    exact ⟨rfl, by go_grown⟩

theorem own : ownKnob Tryd.prog.godebug = none := by kernel_rfl
theorem laidOut : laidOutB Tryd.prog = true := by kernel_rfl

set_option maxRecDepth 100000 in
theorem lifted (os : Os) (started : os.Started) (H : Type) (enc : TypeId × Value → H) :
    ReturnsInHanded {} Tryd.checked os 8 .any (fun w args => (Rows.fnExactJournalAddSpec.pre enc Tryd.prog Tryd.f8 [] false w args ∧ laidMetH Tryd.prog Tb.laid3 w) ∧ sizedMet enc Tryd.prog Tryd.f8 (OpenSpec.ofChange Rows.fnExactJournalAddSpec) false w args)
      (Rows.fnExactJournalAddSpec.post enc Tryd.prog Tryd.f8 false true false false) := by
  refine returnsInHanded_of_change_and (C := Tryd.checked) (X := fun w _ => laidMetH Tryd.prog Tb.laid3 w) (fun _ _ _ hh h => h.of_heap hh) own started (by kernel_rfl) Tryd.func8
    (ChangeSpec.witness_at (enc := enc) (C := Tryd.checked) (os := os) (X := fun w _ => laidMetH Tryd.prog Tb.laid3 w) false (Tb.laidWorld os #[]) #[.string ByteArray.empty, .agg #[.int .i64 0, .int .i64 0, .int .i64 0, .int .i64 0, .int .i64 0]] 8 rfl (by kernel_rfl) (by kernel_rfl) (by kernel_rfl) (by kernel_rfl) (by kernel_rfl) (Tb.laidWorld_met os _)) ?_
  intro W base args ds gs before hval0 hW hcnd _ hL _
  have hval : ∀ (j : Nat) t v, Tryd.f8.params[j]? = some t → args[j]? = some v → Value.okWide Tryd.prog W .any base t v := hval0
  have hW' := hW
  have ht := Tb.tab_of_laid hL
  obtain ⟨p, q, hA0, hV, rfl, hfz, hnd⟩ := hW
  have hA : DataW.TrodAll enc Tryd.prog W 0 (fun _ => true) true Tryd.f8.params.toList args.toList ds p := hA0
  rw [Tryd.params8] at hA hval
  obtain ⟨v0, vs0, d0, ds0, p0, q0, hargs, rfl, rfl, h0, r0⟩ := trodAll_cons hA
  obtain ⟨v1, vs1, d1, ds1, p1, q1, rfl, rfl, rfl, h1, r1⟩ := trodAll_cons r0
  obtain ⟨rfl, rfl, rfl⟩ := trodAll_nil r1
  obtain rfl : args = #[v0, v1] := by cases args; simp_all
  obtain ⟨rfl, rfl⟩ := trodVars_none hV
  obtain ⟨a0, rfl, rfl, rfl, w0⟩ := open_string Tryd.underlying9 (hval 0 9 v0 rfl rfl) h0
  have k1 := h1
  have lt1 : ∀ x ∈ p1, x.block < W.heap.size := by obtain ⟨m, hm⟩ := k1; exact DataW.trod_lt m _ _ _ hm
  obtain ⟨z1, rfl, i1⟩ : ∃ z, v1 = AcM.Agg z ∧ ∀ j, (Lit.int .i64 (gI z j)).wf = true := by
    obtain ⟨fuel, hf⟩ := h1
    exact Opn.open_agg5 Tryd.underlying41 (by kernel_rfl) (by kernel_rfl) rfl (fun j f hf => by match j, hf with | 0, hf => simp at hf; subst hf; exact Tryd.underlying3 | 1, hf => simp at hf; subst hf; exact Tryd.underlying3 | 2, hf => simp at hf; subst hf; exact Tryd.underlying3 | 3, hf => simp at hf; subst hf; exact Tryd.underlying3 | 4, hf => simp at hf; subst hf; exact Tryd.underlying3 | j + 5, hf => simp at hf) (hval 1 41 v1 rfl rfl) hf
  clear hA0 hval0
  refine (walk a0 z1 W w0 i1 ht).mono fun e W' ⟨he, bel⟩ => ?_
  subst he
  exact ⟨_, rfl, _, _, _, [], _, [], hW', trodAll_mk1 (shut_bool Tryd.underlying4 _), (trodAll_cons_mk (shut_string Tryd.underlying9 w0) (trodAll_cons_mk (Below.trod laidOut (by kernel_rfl) (of_decide_eq_true (by kernel_rfl)) k1 bel lt1) trodAll_mk0)), rfl, bel.frame _, fun h => by cases h⟩

theorem over : Rows.fnExactJournalAddRow.holds Tryd.pinned (OpenSpec.ofChange Rows.fnExactJournalAddSpec) :=
  OpenClaim.holds_of_wide 8 Tryd.f8 rfl rfl rfl rfl rfl rfl rfl ⟨rfl, rfl, rfl, rfl, rfl⟩ rfl rfl rfl rfl rfl (by kernel_rfl) Tryd.func8 (by kernel_rfl)
    (of_decide_eq_true (by kernel_rfl)) (by unfold Func.isWrapper; rw [if_neg (of_decide_eq_false (by kernel_rfl))]; exact ⟨rfl, rfl⟩)
    (fun os started H enc _ => lifted os started H enc)

theorem proved : Rows.FnExactJournalAddCardSaid :=
  Claim7.holds_tied_plain_at .later [] [.data, .data, .data] true (true, "33c624b93f9b768f720eef7142da34c4157bfee470f90ba4a579aa51de95882b") false
    over (fun _ h => by cases h) (by kernel_rfl) (fun _ h => by cases h) fnExactJournalAdd_row_tie rfl ⟨rfl, rfl⟩ (by kernel_rfl) rfl
    (fun f fn hf hfn => by
      obtain rfl : f = 8 := Option.some.inj ((show Tryd.prog.funcNamed Rows.fnExactJournalAddRow.func = some 8 by kernel_rfl).symm.trans hf) |>.symm
      obtain rfl : fn = Tryd.f8 := (Option.some.inj (Tryd.func8.symm.trans hfn)).symm
      exact ⟨by kernel_rfl, fun j t ht => by
        have hall : (Tryd.f8.params.toList.all fun t => !Tryd.prog.wantsStandIn t) = true := by kernel_rfl
        have hm : t ∈ Tryd.f8.params.toList := by
          rw [← Array.getElem?_toList] at ht
          exact List.mem_of_getElem? ht
        have h2 : Tryd.prog.wantsStandIn t = false := by simpa using List.all_eq_true.1 hall t hm
        exact h2⟩)
    (by kernel_rfl)
#print axioms proved
end Go.Proofs.YtebiefhfhjgmaaaDoor.fnExactJournalAdd
