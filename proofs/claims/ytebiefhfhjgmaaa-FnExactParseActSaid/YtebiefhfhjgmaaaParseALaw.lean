/- FnExactParseAct: for every string the law returns true and the argument reads as before. No condition. -/
import Derived.Test.YtebiefhfhjgmaaaParseI
import Derived.Test.YtebiefhfhjgmaaaSAct
import Derived.Test.YtebiefhfhjgmaaaOpen2
import Derived.WalkKit
import Derived.ProofKit
import Derived.OpenShut
import Derived.ShutString
import Derived.ChangeOld
namespace Go.Proofs.Ytebiefhfhjgmaaa.fnExactParseAct
open Go.ChangeShapes Go.WideShapes Go.ChangeAt Go.RowKit Mm AcM Ac PaS
open Go.ChangeMaps (open_string shut_string)
set_option linter.unusedVariables false

set_option maxHeartbeats 1000000 in
theorem walk (s : ByteArray) (w : World) (hs : s.size ≤ maxLen) :
    Calls Try.prog 7 #[.string s] w fun e w' => e = .returned (.bool true) ∧ Below w.heap.size w w' := by
  have hm := hs
  unfold maxLen at hm
  by_cases h : s.size ≤ 1048576
  · go_enter Try.func7, Try.ntmps7
    go_wp2_with fail
    refine (PaS.spec_any s _ hs).mono ?_
    rintro e w1 ⟨⟨z, hz, rfl⟩ | ⟨hz, rfl⟩, hb1⟩
    all_goals
      have Hz := Lib.hid hz
      have Hb1 := Lib.hid hb1
      clear hz hb1
      go_wp2_with fail
      refine (PaI.impl_any s _ hs).mono ?_
      rintro e w2 ⟨⟨z', hz', rfl⟩ | ⟨hz', rfl⟩, hb2⟩
    · obtain rfl : z = z' := isAct_fun Hz.out hz'
      have hbx : Blk w2 w1.heap.size 45 #[I (gI z 0), I (gI z 1), I (gI z 2), I (gI z 3), I (gI z 4)] := (Blk.new w1 _ _).below hb2 (by simp)
      have HB2 : Hid (Below w.heap.size w w2) := (Hb1.out.alloc Hb1.out.size _).trans (hb2.mono (by have := Hb1.out.size; simp; omega))
      have hs2 : w1.heap.size < w2.heap.size := hbx.lt
      have c0 : w2.cell? ⟨w1.heap.size, 0, none⟩ = some (I (gI z 0)) := hbx.cell 0
      have c1 : w2.cell? ⟨w1.heap.size, 1, none⟩ = some (I (gI z 1)) := hbx.cell 1
      have c2 : w2.cell? ⟨w1.heap.size, 2, none⟩ = some (I (gI z 2)) := hbx.cell 2
      have c3 : w2.cell? ⟨w1.heap.size, 3, none⟩ = some (I (gI z 3)) := hbx.cell 3
      have c4 : w2.cell? ⟨w1.heap.size, 4, none⟩ = some (I (gI z 4)) := hbx.cell 4
      clear hbx hb2 hz'
      go_wp2_with fail
      refine (SAct.eq_same _ _ _ _ _ _).mono ?_
      rintro e w3 ⟨rfl, hb3⟩
      have HB3 : Hid (Below w.heap.size w w3) := (HB2.out.alloc HB2.out.size _).trans (hb3.mono (by have := HB2.out.size; simp; omega))
      clear hb3 c0 c1 c2 c3 c4
      go_wp2_with fail
      go_ret
      exact ⟨rfl, HB3.out⟩
    · exact absurd Hz.out (hz' _)
    · exact absurd hz' (Hz.out _)
    · skip
      have hbx : Blk w2 w1.heap.size 45 #[I (gI [] 0), I (gI [] 1), I (gI [] 2), I (gI [] 3), I (gI [] 4)] := (Blk.new w1 _ _).below hb2 (by simp)
      have HB2 : Hid (Below w.heap.size w w2) := (Hb1.out.alloc Hb1.out.size _).trans (hb2.mono (by have := Hb1.out.size; simp; omega))
      have hs2 : w1.heap.size < w2.heap.size := hbx.lt
      have c0 : w2.cell? ⟨w1.heap.size, 0, none⟩ = some (I (gI [] 0)) := hbx.cell 0
      have c1 : w2.cell? ⟨w1.heap.size, 1, none⟩ = some (I (gI [] 1)) := hbx.cell 1
      have c2 : w2.cell? ⟨w1.heap.size, 2, none⟩ = some (I (gI [] 2)) := hbx.cell 2
      have c3 : w2.cell? ⟨w1.heap.size, 3, none⟩ = some (I (gI [] 3)) := hbx.cell 3
      have c4 : w2.cell? ⟨w1.heap.size, 4, none⟩ = some (I (gI [] 4)) := hbx.cell 4
      clear hbx hb2 hz'
      go_wp2_with fail
      refine (SAct.eq_same _ _ _ _ _ _).mono ?_
      rintro e w3 ⟨rfl, hb3⟩
      have HB3 : Hid (Below w.heap.size w w3) := (HB2.out.alloc HB2.out.size _).trans (hb3.mono (by have := HB2.out.size; simp; omega))
      clear hb3 c0 c1 c2 c3 c4
      go_wp2_with fail
      go_ret
      exact ⟨rfl, HB3.out⟩
  · have h' : 1048576 < s.size := by omega
    go_enter Try.func7, Try.ntmps7
    go_wp2
    go_ret
    exact ⟨rfl, Below.refl _ _⟩

theorem own : ownKnob Try.prog.godebug = none := by kernel_rfl
theorem laidOut : laidOutB Try.prog = true := by kernel_rfl

set_option maxRecDepth 100000 in
theorem lifted (os : Os) (started : os.Started) (H : Type) (enc : TypeId × Value → H) :
    ReturnsInHanded {} Try.checked os 7 .any (Rows.fnExactParseActSpec.pre6 enc Try.prog Try.f7 Rows.fnExactParseActRow.domain false) (Rows.fnExactParseActSpec.post enc Try.prog Try.f7 false true false false) := by
  refine returnsInHanded_of_change (C := Try.checked) own started (by kernel_rfl) Try.func7
    (ChangeSpec.witness6 (enc := enc) (C := Try.checked) false ⟨#[], #[.string ByteArray.empty], []⟩ 8 (by kernel_rfl) (by kernel_rfl) (by kernel_rfl) (by kernel_rfl)) ?_
  intro W base args ds gs before hval0 hW hcnd _
  have hval : ∀ (j : Nat) t v, Try.f7.params[j]? = some t → args[j]? = some v → Value.okWide Try.prog W .any base t v := hval0
  have hW' := hW
  obtain ⟨p, q, hA0, hV, rfl, hfz, hnd⟩ := hW
  have hA : DataW.TrodAll enc Try.prog W 0 (fun _ => true) true Try.f7.params.toList args.toList ds p := hA0
  rw [Try.params7] at hA hval
  obtain ⟨v0, vs0, d0, ds0, p0, q0, hargs, rfl, rfl, h0, r0⟩ := trodAll_cons hA
  obtain ⟨rfl, rfl, rfl⟩ := trodAll_nil r0
  obtain rfl : args = #[v0] := by cases args; simp_all
  obtain ⟨rfl, rfl⟩ := trodVars_none hV
  obtain ⟨a0, rfl, rfl, rfl, w0⟩ := open_string Try.underlying9 (hval 0 9 v0 rfl rfl) h0
  clear hA0 hval0
  refine (walk a0 W w0).mono fun e W' ⟨he, bel⟩ => ?_
  subst he
  exact ⟨_, rfl, _, _, _, [], _, [], hW', trodAll_mk1 (shut_bool Try.underlying4 _), (trodAll_cons_mk (shut_string Try.underlying9 w0) trodAll_mk0), rfl, bel.frame _, fun h => by cases h⟩

theorem over : Rows.fnExactParseActRow.holds Try.pinned (OpenSpec.ofChange Rows.fnExactParseActSpec) :=
  OpenClaim.holds_of_wide 7 Try.f7 rfl rfl rfl rfl rfl rfl rfl ⟨rfl, rfl, rfl, rfl, rfl⟩ rfl rfl rfl rfl rfl (by kernel_rfl) Try.func7 (by kernel_rfl)
    (of_decide_eq_true (by kernel_rfl)) (by unfold Func.isWrapper; first | (rw [if_pos (by decide +kernel)]; kernel_rfl) | (rw [if_neg (by decide +kernel)]; exact ⟨rfl, rfl⟩))
    (fun os started H enc _ => lifted os started H enc)

theorem proved : Rows.FnExactParseActSaid := over
#print axioms proved
end Go.Proofs.Ytebiefhfhjgmaaa.fnExactParseAct
