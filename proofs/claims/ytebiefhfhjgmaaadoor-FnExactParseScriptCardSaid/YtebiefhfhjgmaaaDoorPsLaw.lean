/- FnExactParseScript: for every string the law returns true and it reads as before; the tables of Go's library hold what the program's text lays. No other condition. -/
import Derived.Test.YtebiefhfhjgmaaaDoorPsI
import Derived.Test.YtebiefhfhjgmaaaDoorTab2
import Derived.Test.YtebiefhfhjgmaaaDoorSAct
import Derived.Test.YtebiefhfhjgmaaaDoorHanded
import Derived.Test.YtebiefhfhjgmaaaDoorCards
import Derived.WalkKit
import Derived.ProofKit
import Derived.OpenShut
import Derived.ShutString
import Derived.ChangeOld
namespace Go.Proofs.YtebiefhfhjgmaaaDoor.fnExactParseScript
set_option maxRecDepth 100000
open Go.ChangeShapes Go.WideShapes Go.ChangeAt Go.RowKit Mm Jr Ps Ac
open Go.ChangeMaps (open_string shut_string)
set_option linter.unusedVariables false

/-- The call handed back the acts m, the number b and the flag ok. -/
def RetMB (m : List (List Int)) (b : Nat) (ok : Bool) (w : World) (e : Ending) (w' : World) : Prop :=
  ∃ A c, e = .returned (.tuple #[.slice A m.length c, I ((b : Nat) : Int), .bool ok]) ∧ w'.ownsRow w.heap.size 44 5 (.slice A m.length c) m.length ((rows m).map I) ∧ Below w.heap.size w w'
theorem impl_ret {s : ByteArray} {m : List (List Int)} {b : Nat} {ok : Bool} (w : World) (hj : Hid (PsOf s m b ok)) (hs : s.size ≤ 1048576) (hv : MaxV w) :
    Calls Tryd.prog 37 #[.string s] w (RetMB m b ok w) :=
  (Ps.impl_any s w hs hv).mono fun e w' ⟨m', b', ok', A, c, hj', he, ho, hb⟩ => by
    obtain ⟨rfl, rfl, rfl⟩ := ps_fun hj.out hj'
    exact ⟨A, c, he, ho, hb⟩

set_option maxHeartbeats 1000000 in
theorem walk (s : ByteArray) (w : World) (hs : s.size ≤ maxLen) (hv : MaxV w) :
    Calls Tryd.prog 10 #[.string s] w fun e w' => e = .returned (.bool true) ∧ Below w.heap.size w w' := by
  have hm := hs
  unfold maxLen at hm
  by_cases h : s.size ≤ 1048576
  rotate_left
  · have h1 : (1048576 : Int) < (s.size : Int) := by omega
    clear h
    go_enter Tryd.func10, Tryd.ntmps10
    go_wp2
    go_ret
    exact ⟨rfl, Below.refl _ _⟩
  · have Hv := Lib.hid hv
    clear hs hm hv
    go_enter Tryd.func10, Tryd.ntmps10
    go_wp2_with fail
    refine (Ps.spec_any s _ h).mono ?_
    rintro e w1 ⟨m, b, ok, AW, cW, hj, rfl, o1, b1⟩
    have hml := (ps_len hj).1
    have hbl := (ps_len hj).2
    have hok : (ok != ok) = false := by cases ok <;> rfl
    have Hj := Lib.hid hj
    have OW := Lib.hid o1
    have B1 := Lib.hid b1
    clear hj o1 b1
    go_wp2_with fail
    refine (impl_ret _ Hj h (max_below Hv.out B1.out)).mono ?_
    rintro e w2 ⟨AG, cG, rfl, o2, b2⟩
    have NWG := Lib.hid (own_ne o2 OW.out (Nat.le_refl _))
    have OW := Lib.hid (own_below OW.out b2)
    have B2 := Lib.hid (B1.out.trans (b2.mono B1.out.size))
    have OG := Lib.hid (own_mono o2 B1.out.size)
    clear o2 b2 B1
    go_wp2_with fail
    refine (SAct.eqS_same _ _ _ _ _ (rows m) _ (IRow.of_own OG.out (Nat.le_refl _)) (IRow.of_own OW.out (Nat.le_refl _)) (by omega)).mono ?_
    rintro e w3 ⟨rfl, b3⟩
    have OW := Lib.hid (own_below OW.out b3)
    have OG := Lib.hid (own_below OG.out b3)
    have B3 := Lib.hid (B2.out.trans (b3.mono B2.out.size))
    clear b3 B2
    go_wp2_with fail
    refine (SAct.markS_any _ _ _ _ (rows m) _ _ OG.out (by omega) (by omega)).mono ?_
    rintro e w4 ⟨rfl, o4, g4⟩
    have OW := Lib.hid (own_other OW.out g4 NWG.out)
    have B4 := Lib.hid (below_own B3.out OG.out g4 (Nat.le_refl _))
    have OG := Lib.hid o4
    clear o4 g4 B3
    go_wp2_with fail
    refine (SAct.heldS_any _ _ _ _ _ (IRow.of_own OG.out (Nat.le_refl _)) (by omega) (by omega)).mono ?_
    rintro e w' ⟨rfl, rfl⟩
    go_wp2_with fail
    refine (impl_ret _ Hj h (max_below Hv.out B4.out)).mono ?_
    rintro e w5 ⟨AH, cH, rfl, o5, b5⟩
    have NWH := Lib.hid (own_ne o5 OW.out (Nat.le_refl _))
    have NGH := Lib.hid (own_ne o5 OG.out (Nat.le_refl _))
    have OW := Lib.hid (own_below OW.out b5)
    have OG := Lib.hid (own_below OG.out b5)
    have B5 := Lib.hid (B4.out.trans (b5.mono B4.out.size))
    have OH := Lib.hid (own_mono o5 B4.out.size)
    clear o5 b5 B4
    go_wp2_with fail
    refine (SAct.eqS_same _ _ _ _ _ (rows m) _ (IRow.of_own OH.out (Nat.le_refl _)) (IRow.of_own OW.out (Nat.le_refl _)) (by omega)).mono ?_
    rintro e w6 ⟨rfl, b6⟩
    have OW := Lib.hid (own_below OW.out b6)
    have OG := Lib.hid (own_below OG.out b6)
    have OH := Lib.hid (own_below OH.out b6)
    have B6 := Lib.hid (B5.out.trans (b6.mono B5.out.size))
    clear b6 B5
    go_wp2_with fail
    refine (SAct.heldS_any _ _ _ _ _ (IRow.of_own OG.out (Nat.le_refl _)) (by omega) (by omega)).mono ?_
    rintro e w' ⟨rfl, rfl⟩
    go_wp2_with fail
    go_ret
    exact ⟨rfl, B6.out⟩

theorem own : ownKnob Tryd.prog.godebug = none := by kernel_rfl
theorem laidOut : laidOutB Tryd.prog = true := by kernel_rfl

set_option maxRecDepth 100000 in
theorem lifted (os : Os) (started : os.Started) (H : Type) (enc : TypeId × Value → H) :
    ReturnsInHanded {} Tryd.checked os 10 .any (fun w args => (Rows.fnExactParseScriptSpec.pre enc Tryd.prog Tryd.f10 [] false w args ∧ laidMetH Tryd.prog Tb2.laid2 w) ∧ sizedMet enc Tryd.prog Tryd.f10 (OpenSpec.ofChange Rows.fnExactParseScriptSpec) false w args)
      (Rows.fnExactParseScriptSpec.post enc Tryd.prog Tryd.f10 false true false false) := by
  refine Hd.returnsInHanded_of_change_both (C := Tryd.checked) (X := fun w _ => laidMetH Tryd.prog Tb2.laid2 w) (fun _ _ _ hh h => h.of_heap hh) own started (by kernel_rfl) Tryd.func10
    (ChangeSpec.witness_at (enc := enc) (C := Tryd.checked) (os := os) (X := fun w _ => laidMetH Tryd.prog Tb2.laid2 w) false (Tb2.laidWorld os #[]) #[.string ByteArray.empty] 8 rfl (by kernel_rfl) (by kernel_rfl) (by kernel_rfl) (by kernel_rfl) (by kernel_rfl) (Tb2.laidWorld_met os _)) ?_
  intro W base args ds gs before hval0 hW hcnd _ hL hsh _
  have hval : ∀ (j : Nat) t v, Tryd.f10.params[j]? = some t → args[j]? = some v → Value.okWide Tryd.prog W .any base t v := hval0
  have hW' := hW
  have _ := hL
  have hv := Jr.max_shaped hsh
  obtain ⟨p, q, hA0, hV, rfl, hfz, hnd⟩ := hW
  have hA : DataW.TrodAll enc Tryd.prog W 0 (fun _ => true) true Tryd.f10.params.toList args.toList ds p := hA0
  rw [Tryd.params10] at hA hval
  obtain ⟨v0, vs0, d0, ds0, p0, q0, hargs, rfl, rfl, h0, r0⟩ := trodAll_cons hA
  obtain ⟨rfl, rfl, rfl⟩ := trodAll_nil r0
  obtain rfl : args = #[v0] := by cases args; simp_all
  obtain ⟨rfl, rfl⟩ := trodVars_none hV
  obtain ⟨a0, rfl, rfl, rfl, w0⟩ := open_string Tryd.underlying9 (hval 0 9 v0 rfl rfl) h0
  clear hA0 hval0
  refine (walk a0 W w0 hv).mono fun e W' ⟨he, bel⟩ => ?_
  subst he
  exact ⟨_, rfl, _, _, _, [], _, [], hW', trodAll_mk1 (shut_bool Tryd.underlying4 _), (trodAll_cons_mk (shut_string Tryd.underlying9 w0) trodAll_mk0), rfl, bel.frame _, fun h => by cases h⟩

theorem over : Rows.fnExactParseScriptRow.holds Tryd.pinned (OpenSpec.ofChange Rows.fnExactParseScriptSpec) :=
  OpenClaim.holds_of_wide 10 Tryd.f10 rfl rfl rfl rfl rfl rfl rfl ⟨rfl, rfl, rfl, rfl, rfl⟩ rfl rfl rfl rfl rfl (by kernel_rfl) Tryd.func10 (by kernel_rfl)
    (of_decide_eq_true (by kernel_rfl)) (by unfold Func.isWrapper; rw [if_neg (of_decide_eq_false (by kernel_rfl))]; exact ⟨rfl, rfl⟩)
    (fun os started H enc _ => lifted os started H enc)

theorem proved : Rows.FnExactParseScriptCardSaid :=
  Claim7.holds_tied_plain_at .later [] [.data, .pinned] true (true, "33c624b93f9b768f720eef7142da34c4157bfee470f90ba4a579aa51de95882b") false
    over (fun _ h => by cases h) (by kernel_rfl) (fun _ h => by cases h) fnExactParseScript_row_tie rfl ⟨rfl, rfl⟩ (by kernel_rfl) rfl
    (fun f fn hf hfn => by
      obtain rfl : f = 10 := Option.some.inj ((show Tryd.prog.funcNamed Rows.fnExactParseScriptRow.func = some 10 by kernel_rfl).symm.trans hf) |>.symm
      obtain rfl : fn = Tryd.f10 := (Option.some.inj (Tryd.func10.symm.trans hfn)).symm
      exact ⟨by kernel_rfl, fun j t ht => by
        have hall : (Tryd.f10.params.toList.all fun t => !Tryd.prog.wantsStandIn t) = true := by kernel_rfl
        have hm : t ∈ Tryd.f10.params.toList := by
          rw [← Array.getElem?_toList] at ht
          exact List.mem_of_getElem? ht
        have h2 : Tryd.prog.wantsStandIn t = false := by simpa using List.all_eq_true.1 hall t hm
        exact h2⟩)
    (by kernel_rfl)
#print axioms proved
end Go.Proofs.YtebiefhfhjgmaaaDoor.fnExactParseScript
