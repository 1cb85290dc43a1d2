/- Contracts of the laws' generic functions (to). Printed by gen_con.py. No condition. -/
import Derived.Test.YtogajjgmcnjkbaaGreatMd
import Derived.ProofKit
import Derived.OpenShut
import Derived.Deep.Slices
import Derived.Deep.Fields
import Derived.ChangeSame
import Derived.WideShapes

namespace Go.Proofs.YtogajjgmcnjkbaaGreat.Ab
open Go.RowKit
set_option maxRecDepth 20000
set_option maxHeartbeats 2000000

theorem toIntS_ok (x : List Int) (hx : smlIntS x) : CallsA Tryz.prog 109 false [.val none (rIntS .imm x)] .one (rIntS .own x) := by
 refine fO (n := 22) [] Tryz.func109 (by kernel_rfl) rfl (by kernel_rfl) (by rfl) (.inr (rIntS_fr x)) ?_
 have hl : x.length ≤ 1048576 := hx
 have hml : (x.map (rI .own)).length = (List.replicate x.length ([I 0] : List C)).length := by simp
 repeat' ((conv=>whnf);first|with_reducible (first|refine Lm ?_|refine Wm (by omega) ?_|refine Bn ?_|refine Fm rfl ?_)|refine Bt ?_|refine Bu ?_|refine Mk.mk _ rfl rfl (by omega) (mkB hl (by decide)) rfl ?_)
 (conv=>whnf)
 refine Lp.mk (ι := Nat) (fun i => [(0, .hold .one (rIntS .imm x)), (3, .hold .one [.s .own (mixR (x.map (rI .own)) (List.replicate x.length [I 0]) i)]), (4, .hold .one [I (i : Nat)])]) (fun i => i ≤ x.length) (fun i => x.length - i) 0 ?_ (Nat.zero_le _) fun i hi => ?_
 ·rw [mix_zero]
  repeat' (first|exact trivial|rfl|refine And.intro ?_ ?_)
 ·by_cases hlt : i < x.length
  ·obtain ⟨y, hy⟩ : ∃ y, x[i]? = some y := ⟨_, List.getElem?_eq_getElem hlt⟩
   have hr := mix_get hml i (by simp; omega)
   rw [get_rep hlt] at hr
   repeat' ((conv=>whnf);first|with_reducible (first|refine Lm ?_|refine Wm (by omega) ?_|refine dT (by omega) (fun h => ?_)|refine Ix.nat (get_map hy) ?_|refine Ix.nat hr ?_|refine Bn ?_|refine Fm rfl ?_)|refine Bt ?_|refine Bu ?_|refine Pu.one rfl rfl hr rfl (Nat.le_refl _) rfl ?_|refine Nx.mk (i + 1) (by omega) (by omega) ?_)
   repeat' (first|exact trivial|rfl|exact And.intro rfl (And.intro (congrArg (C.s Own.own) (mix_set hml (get_map hy))) trivial)|refine And.intro ?_ ?_)
  ·repeat' ((conv=>whnf);first|with_reducible (first|refine Lm ?_|refine Wm (by omega) ?_|refine dF (by omega) (fun h => ?_)|refine Bn ?_|refine Fm rfl ?_)|refine Bt ?_|refine Bu ?_)
   rw [mix_end _ hml (by simp; omega)]
   rfl
theorem toIntSS_ok (x : List (List Int)) (hx : smlIntSS x) : CallsA Tryz.prog 116 false [.val none (rIntSS .imm x)] .one (rIntSS .own x) := by
 refine fO (n := 23) [] Tryz.func116 (by kernel_rfl) rfl (by kernel_rfl) (by rfl) (.inr (rIntSS_fr x)) ?_
 have hl : x.length ≤ 1048576 := hx.1
 have hml : (x.map (rIntS .own)).length = (List.replicate x.length ([.z] : List C)).length := by simp
 repeat' ((conv=>whnf);first|with_reducible (first|refine Lm ?_|refine Wm (by omega) ?_|refine Bn ?_|refine Fm rfl ?_)|refine Bt ?_|refine Bu ?_|refine Mk.mk _ rfl rfl (by omega) (mkB hl (by decide)) rfl ?_)
 (conv=>whnf)
 refine Lp.mk (ι := Nat) (fun i => [(0, .hold .one (rIntSS .imm x)), (3, .hold .one [.s .own (mixR (x.map (rIntS .own)) (List.replicate x.length [.z]) i)]), (4, .hold .one [I (i : Nat)])]) (fun i => i ≤ x.length) (fun i => x.length - i) 0 ?_ (Nat.zero_le _) fun i hi => ?_
 ·rw [mix_zero]
  repeat' (first|exact trivial|rfl|refine And.intro ?_ ?_)
 ·by_cases hlt : i < x.length
  ·obtain ⟨y, hy⟩ : ∃ y, x[i]? = some y := ⟨_, List.getElem?_eq_getElem hlt⟩
   have hr := mix_get hml i (by simp; omega)
   rw [get_rep hlt] at hr
   repeat' ((conv=>whnf);first|with_reducible (first|refine Lm ?_|refine Wm (by omega) ?_|refine dT (by omega) (fun h => ?_)|refine Ix.nat (get_map hy) ?_|refine Ix.nat hr ?_|refine Bn ?_|refine Fm rfl ?_)|refine Bt ?_|refine Bu ?_|refine Cl.mk (toIntS_ok y (hx.2 y (List.mem_of_getElem? hy))) ?_|refine Pu.one rfl rfl hr rfl (Nat.le_refl _) rfl ?_|refine Nx.mk (i + 1) (by omega) (by omega) ?_)
   repeat' (first|exact trivial|rfl|exact And.intro rfl (And.intro (congrArg (C.s Own.own) (mix_set hml (get_map hy))) trivial)|refine And.intro ?_ ?_)
  ·repeat' ((conv=>whnf);first|with_reducible (first|refine Lm ?_|refine Wm (by omega) ?_|refine dF (by omega) (fun h => ?_)|refine Bn ?_|refine Fm rfl ?_)|refine Bt ?_|refine Bu ?_)
   rw [mix_end _ hml (by simp; omega)]
   rfl
theorem toBoolS_ok (x : List Bool) (hx : smlBoolS x) : CallsA Tryz.prog 300 false [.val none (rBoolS .imm x)] .one (rBoolS .own x) := by
 refine fO (n := 22) [] Tryz.func300 (by kernel_rfl) rfl (by kernel_rfl) (by rfl) (.inr (rBoolS_fr x)) ?_
 have hl : x.length ≤ 1048576 := hx
 have hml : (x.map (rB .own)).length = (List.replicate x.length ([B false] : List C)).length := by simp
 repeat' ((conv=>whnf);first|with_reducible (first|refine Lm ?_|refine Wm (by omega) ?_|refine Bn ?_|refine Fm rfl ?_)|refine Bt ?_|refine Bu ?_|refine Mk.mk _ rfl rfl (by omega) (mkB hl (by decide)) rfl ?_)
 (conv=>whnf)
 refine Lp.mk (ι := Nat) (fun i => [(0, .hold .one (rBoolS .imm x)), (3, .hold .one [.s .own (mixR (x.map (rB .own)) (List.replicate x.length [B false]) i)]), (4, .hold .one [I (i : Nat)])]) (fun i => i ≤ x.length) (fun i => x.length - i) 0 ?_ (Nat.zero_le _) fun i hi => ?_
 ·rw [mix_zero]
  repeat' (first|exact trivial|rfl|refine And.intro ?_ ?_)
 ·by_cases hlt : i < x.length
  ·obtain ⟨y, hy⟩ : ∃ y, x[i]? = some y := ⟨_, List.getElem?_eq_getElem hlt⟩
   have hr := mix_get hml i (by simp; omega)
   rw [get_rep hlt] at hr
   repeat' ((conv=>whnf);first|with_reducible (first|refine Lm ?_|refine Wm (by omega) ?_|refine dT (by omega) (fun h => ?_)|refine Ix.nat (get_map hy) ?_|refine Ix.nat hr ?_|refine Bn ?_|refine Fm rfl ?_)|refine Bt ?_|refine Bu ?_|refine Pu.one rfl rfl hr rfl (Nat.le_refl _) rfl ?_|refine Nx.mk (i + 1) (by omega) (by omega) ?_)
   repeat' (first|exact trivial|rfl|exact And.intro rfl (And.intro (congrArg (C.s Own.own) (mix_set hml (get_map hy))) trivial)|refine And.intro ?_ ?_)
  ·repeat' ((conv=>whnf);first|with_reducible (first|refine Lm ?_|refine Wm (by omega) ?_|refine dF (by omega) (fun h => ?_)|refine Bn ?_|refine Fm rfl ?_)|refine Bt ?_|refine Bu ?_)
   rw [mix_end _ hml (by simp; omega)]
   rfl
theorem toFrames_ok (x : DFrames) (hs : DFrames.sml x) : CallsA Tryz.prog 220 false [.val (some 2) (DFrames.enc .imm x)] .agg (DFrames.enc .own x) := by
 obtain ⟨h0, h1⟩ := hs
 refine fO (n := 13) [] Tryz.func220 (by kernel_rfl) rfl (by kernel_rfl) (by rfl) (.inr (DFrames.enc_fr x)) ?_
 repeat' ((conv=>whnf);first|with_reducible (first|refine Lm ?_|refine Wm (by omega) ?_|refine Bn ?_|refine Fm rfl ?_)|refine Bt ?_|refine Bu ?_|refine Cl.mk (toIntSS_ok x.Cells h0) ?_|refine Cl.mk (toBoolS_ok x.Used h1) ?_)
 rfl
theorem toEntry_ok (x : DEntry) (hs : DEntry.sml x) : CallsA Tryz.prog 348 false [.val (some 2) (DEntry.enc .imm x)] .agg (DEntry.enc .own x) := by
 refine fO (n := 11) [] Tryz.func348 (by kernel_rfl) rfl (by kernel_rfl) (by rfl) (.inr (DEntry.enc_fr x)) ?_
 repeat' ((conv=>whnf);first|with_reducible (first|refine Lm ?_|refine Wm (by omega) ?_|refine Bn ?_|refine Fm rfl ?_)|refine Bt ?_|refine Bu ?_)
 rfl
theorem toEntryS_ok (x : List DEntry) (hx : smlDEntryS x) : CallsA Tryz.prog 301 false [.val none (rDEntryS .imm x)] .one (rDEntryS .own x) := by
 refine fO (n := 23) [] Tryz.func301 (by kernel_rfl) rfl (by kernel_rfl) (by rfl) (.inr (rDEntryS_fr x)) ?_
 have hl : x.length ≤ 1048576 := hx.1
 have hml : (x.map (DEntry.enc .own)).length = (List.replicate x.length ([I 0, I 0] : List C)).length := by simp
 repeat' ((conv=>whnf);first|with_reducible (first|refine Lm ?_|refine Wm (by omega) ?_|refine Bn ?_|refine Fm rfl ?_)|refine Bt ?_|refine Bu ?_|refine Mk.mk _ rfl rfl (by omega) (mkB hl (by decide)) rfl ?_)
 (conv=>whnf)
 refine Lp.mk (ι := Nat) (fun i => [(0, .hold .one (rDEntryS .imm x)), (3, .hold .one [.s .own (mixR (x.map (DEntry.enc .own)) (List.replicate x.length [I 0, I 0]) i)]), (4, .hold .one [I (i : Nat)])]) (fun i => i ≤ x.length) (fun i => x.length - i) 0 ?_ (Nat.zero_le _) fun i hi => ?_
 ·rw [mix_zero]
  repeat' (first|exact trivial|rfl|refine And.intro ?_ ?_)
 ·by_cases hlt : i < x.length
  ·obtain ⟨y, hy⟩ : ∃ y, x[i]? = some y := ⟨_, List.getElem?_eq_getElem hlt⟩
   have hr := mix_get hml i (by simp; omega)
   rw [get_rep hlt] at hr
   repeat' ((conv=>whnf);first|with_reducible (first|refine Lm ?_|refine Wm (by omega) ?_|refine dT (by omega) (fun h => ?_)|refine Ix.nat (get_map hy) ?_|refine Ix.nat hr ?_|refine Bn ?_|refine Fm rfl ?_)|refine Bt ?_|refine Bu ?_|refine Cl.mk (toEntry_ok y trivial) ?_|refine Pu.one rfl rfl hr rfl (Nat.le_refl _) rfl ?_|refine Nx.mk (i + 1) (by omega) (by omega) ?_)
   repeat' (first|exact trivial|rfl|exact And.intro rfl (And.intro (congrArg (C.s Own.own) (mix_set hml (get_map hy))) trivial)|refine And.intro ?_ ?_)
  ·repeat' ((conv=>whnf);first|with_reducible (first|refine Lm ?_|refine Wm (by omega) ?_|refine dF (by omega) (fun h => ?_)|refine Bn ?_|refine Fm rfl ?_)|refine Bt ?_|refine Bu ?_)
   rw [mix_end _ hml (by simp; omega)]
   rfl
theorem toTable_ok (x : DTable) (hs : DTable.sml x) : CallsA Tryz.prog 221 false [.val (some 1) (DTable.enc .imm x)] .agg (DTable.enc .own x) := by
 have h0 := hs
 refine fO (n := 9) [] Tryz.func221 (by kernel_rfl) rfl (by kernel_rfl) (by rfl) (.inr (DTable.enc_fr x)) ?_
 repeat' ((conv=>whnf);first|with_reducible (first|refine Lm ?_|refine Wm (by omega) ?_|refine Bn ?_|refine Fm rfl ?_)|refine Bt ?_|refine Bu ?_|refine Cl.mk (toEntryS_ok x.Entries h0) ?_)
 rfl
theorem toMachine_ok (x : DMachine) (hs : DMachine.sml x) : CallsA Tryz.prog 108 false [.val (some 3) (DMachine.enc .imm x)] .agg (DMachine.enc .own x) := by
 obtain ⟨h0, h1⟩ := hs
 refine fO (n := 13) [] Tryz.func108 (by kernel_rfl) rfl (by kernel_rfl) (by rfl) (.inr (DMachine.enc_fr x)) ?_
 repeat' ((conv=>whnf);first|with_reducible (first|refine Lm ?_|refine Wm (by omega) ?_|refine Bn ?_|refine Fm rfl ?_)|refine Bt ?_|refine Bu ?_|refine Cl.mk (toFrames_ok x.Frames h0) ?_|refine Cl.mk (toTable_ok x.Table h1) ?_)
 rfl
theorem toKernel_ok (x : DKernel) (hs : DKernel.sml x) : CallsA Tryz.prog 33 false [.val (some 5) (DKernel.enc .imm x)] .agg (DKernel.enc .own x) := by
 obtain ⟨h0, h1⟩ := hs
 refine fO (n := 16) [] Tryz.func33 (by kernel_rfl) rfl (by kernel_rfl) (by rfl) (.inr (DKernel.enc_fr x)) ?_
 repeat' ((conv=>whnf);first|with_reducible (first|refine Lm ?_|refine Wm (by omega) ?_|refine Bn ?_|refine Fm rfl ?_)|refine Bt ?_|refine Bu ?_|refine Cl.mk (toMachine_ok x.Machine h0) ?_|refine Cl.mk (toIntS_ok x.Refuse h1) ?_)
 rfl
theorem toRange_ok (x : DRange) (hs : DRange.sml x) : CallsA Tryz.prog 110 false [.val (some 2) (DRange.enc .imm x)] .agg (DRange.enc .own x) := by
 refine fO (n := 11) [] Tryz.func110 (by kernel_rfl) rfl (by kernel_rfl) (by rfl) (.inr (DRange.enc_fr x)) ?_
 repeat' ((conv=>whnf);first|with_reducible (first|refine Lm ?_|refine Wm (by omega) ?_|refine Bn ?_|refine Fm rfl ?_)|refine Bt ?_|refine Bu ?_)
 rfl
theorem toRangeS_ok (x : List DRange) (hx : smlDRangeS x) : CallsA Tryz.prog 34 false [.val none (rDRangeS .imm x)] .one (rDRangeS .own x) := by
 refine fO (n := 23) [] Tryz.func34 (by kernel_rfl) rfl (by kernel_rfl) (by rfl) (.inr (rDRangeS_fr x)) ?_
 have hl : x.length ≤ 1048576 := hx.1
 have hml : (x.map (DRange.enc .own)).length = (List.replicate x.length ([I 0, I 0] : List C)).length := by simp
 repeat' ((conv=>whnf);first|with_reducible (first|refine Lm ?_|refine Wm (by omega) ?_|refine Bn ?_|refine Fm rfl ?_)|refine Bt ?_|refine Bu ?_|refine Mk.mk _ rfl rfl (by omega) (mkB hl (by decide)) rfl ?_)
 (conv=>whnf)
 refine Lp.mk (ι := Nat) (fun i => [(0, .hold .one (rDRangeS .imm x)), (3, .hold .one [.s .own (mixR (x.map (DRange.enc .own)) (List.replicate x.length [I 0, I 0]) i)]), (4, .hold .one [I (i : Nat)])]) (fun i => i ≤ x.length) (fun i => x.length - i) 0 ?_ (Nat.zero_le _) fun i hi => ?_
 ·rw [mix_zero]
  repeat' (first|exact trivial|rfl|refine And.intro ?_ ?_)
 ·by_cases hlt : i < x.length
  ·obtain ⟨y, hy⟩ : ∃ y, x[i]? = some y := ⟨_, List.getElem?_eq_getElem hlt⟩
   have hr := mix_get hml i (by simp; omega)
   rw [get_rep hlt] at hr
   repeat' ((conv=>whnf);first|with_reducible (first|refine Lm ?_|refine Wm (by omega) ?_|refine dT (by omega) (fun h => ?_)|refine Ix.nat (get_map hy) ?_|refine Ix.nat hr ?_|refine Bn ?_|refine Fm rfl ?_)|refine Bt ?_|refine Bu ?_|refine Cl.mk (toRange_ok y trivial) ?_|refine Pu.one rfl rfl hr rfl (Nat.le_refl _) rfl ?_|refine Nx.mk (i + 1) (by omega) (by omega) ?_)
   repeat' (first|exact trivial|rfl|exact And.intro rfl (And.intro (congrArg (C.s Own.own) (mix_set hml (get_map hy))) trivial)|refine And.intro ?_ ?_)
  ·repeat' ((conv=>whnf);first|with_reducible (first|refine Lm ?_|refine Wm (by omega) ?_|refine dF (by omega) (fun h => ?_)|refine Bn ?_|refine Fm rfl ?_)|refine Bt ?_|refine Bu ?_)
   rw [mix_end _ hml (by simp; omega)]
   rfl
theorem toSpan_ok (x : DSpan) (hs : DSpan.sml x) : CallsA Tryz.prog 111 false [.val (some 3) (DSpan.enc .imm x)] .agg (DSpan.enc .own x) := by
 refine fO (n := 14) [] Tryz.func111 (by kernel_rfl) rfl (by kernel_rfl) (by rfl) (.inr (DSpan.enc_fr x)) ?_
 repeat' ((conv=>whnf);first|with_reducible (first|refine Lm ?_|refine Wm (by omega) ?_|refine Bn ?_|refine Fm rfl ?_)|refine Bt ?_|refine Bu ?_)
 rfl
theorem toSpanS_ok (x : List DSpan) (hx : smlDSpanS x) : CallsA Tryz.prog 35 false [.val none (rDSpanS .imm x)] .one (rDSpanS .own x) := by
 refine fO (n := 23) [] Tryz.func35 (by kernel_rfl) rfl (by kernel_rfl) (by rfl) (.inr (rDSpanS_fr x)) ?_
 have hl : x.length ≤ 1048576 := hx.1
 have hml : (x.map (DSpan.enc .own)).length = (List.replicate x.length ([I 0, I 0, I 0] : List C)).length := by simp
 repeat' ((conv=>whnf);first|with_reducible (first|refine Lm ?_|refine Wm (by omega) ?_|refine Bn ?_|refine Fm rfl ?_)|refine Bt ?_|refine Bu ?_|refine Mk.mk _ rfl rfl (by omega) (mkB hl (by decide)) rfl ?_)
 (conv=>whnf)
 refine Lp.mk (ι := Nat) (fun i => [(0, .hold .one (rDSpanS .imm x)), (3, .hold .one [.s .own (mixR (x.map (DSpan.enc .own)) (List.replicate x.length [I 0, I 0, I 0]) i)]), (4, .hold .one [I (i : Nat)])]) (fun i => i ≤ x.length) (fun i => x.length - i) 0 ?_ (Nat.zero_le _) fun i hi => ?_
 ·rw [mix_zero]
  repeat' (first|exact trivial|rfl|refine And.intro ?_ ?_)
 ·by_cases hlt : i < x.length
  ·obtain ⟨y, hy⟩ : ∃ y, x[i]? = some y := ⟨_, List.getElem?_eq_getElem hlt⟩
   have hr := mix_get hml i (by simp; omega)
   rw [get_rep hlt] at hr
   repeat' ((conv=>whnf);first|with_reducible (first|refine Lm ?_|refine Wm (by omega) ?_|refine dT (by omega) (fun h => ?_)|refine Ix.nat (get_map hy) ?_|refine Ix.nat hr ?_|refine Bn ?_|refine Fm rfl ?_)|refine Bt ?_|refine Bu ?_|refine Cl.mk (toSpan_ok y trivial) ?_|refine Pu.one rfl rfl hr rfl (Nat.le_refl _) rfl ?_|refine Nx.mk (i + 1) (by omega) (by omega) ?_)
   repeat' (first|exact trivial|rfl|exact And.intro rfl (And.intro (congrArg (C.s Own.own) (mix_set hml (get_map hy))) trivial)|refine And.intro ?_ ?_)
  ·repeat' ((conv=>whnf);first|with_reducible (first|refine Lm ?_|refine Wm (by omega) ?_|refine dF (by omega) (fun h => ?_)|refine Bn ?_|refine Fm rfl ?_)|refine Bt ?_|refine Bu ?_)
   rw [mix_end _ hml (by simp; omega)]
   rfl
theorem toLarge_ok (x : DLarge) (hs : DLarge.sml x) : CallsA Tryz.prog 112 false [.val (some 3) (DLarge.enc .imm x)] .agg (DLarge.enc .own x) := by
 refine fO (n := 14) [] Tryz.func112 (by kernel_rfl) rfl (by kernel_rfl) (by rfl) (.inr (DLarge.enc_fr x)) ?_
 repeat' ((conv=>whnf);first|with_reducible (first|refine Lm ?_|refine Wm (by omega) ?_|refine Bn ?_|refine Fm rfl ?_)|refine Bt ?_|refine Bu ?_)
 rfl
theorem toLargeS_ok (x : List DLarge) (hx : smlDLargeS x) : CallsA Tryz.prog 36 false [.val none (rDLargeS .imm x)] .one (rDLargeS .own x) := by
 refine fO (n := 23) [] Tryz.func36 (by kernel_rfl) rfl (by kernel_rfl) (by rfl) (.inr (rDLargeS_fr x)) ?_
 have hl : x.length ≤ 1048576 := hx.1
 have hml : (x.map (DLarge.enc .own)).length = (List.replicate x.length ([I 0, I 0, I 0] : List C)).length := by simp
 repeat' ((conv=>whnf);first|with_reducible (first|refine Lm ?_|refine Wm (by omega) ?_|refine Bn ?_|refine Fm rfl ?_)|refine Bt ?_|refine Bu ?_|refine Mk.mk _ rfl rfl (by omega) (mkB hl (by decide)) rfl ?_)
 (conv=>whnf)
 refine Lp.mk (ι := Nat) (fun i => [(0, .hold .one (rDLargeS .imm x)), (3, .hold .one [.s .own (mixR (x.map (DLarge.enc .own)) (List.replicate x.length [I 0, I 0, I 0]) i)]), (4, .hold .one [I (i : Nat)])]) (fun i => i ≤ x.length) (fun i => x.length - i) 0 ?_ (Nat.zero_le _) fun i hi => ?_
 ·rw [mix_zero]
  repeat' (first|exact trivial|rfl|refine And.intro ?_ ?_)
 ·by_cases hlt : i < x.length
  ·obtain ⟨y, hy⟩ : ∃ y, x[i]? = some y := ⟨_, List.getElem?_eq_getElem hlt⟩
   have hr := mix_get hml i (by simp; omega)
   rw [get_rep hlt] at hr
   repeat' ((conv=>whnf);first|with_reducible (first|refine Lm ?_|refine Wm (by omega) ?_|refine dT (by omega) (fun h => ?_)|refine Ix.nat (get_map hy) ?_|refine Ix.nat hr ?_|refine Bn ?_|refine Fm rfl ?_)|refine Bt ?_|refine Bu ?_|refine Cl.mk (toLarge_ok y trivial) ?_|refine Pu.one rfl rfl hr rfl (Nat.le_refl _) rfl ?_|refine Nx.mk (i + 1) (by omega) (by omega) ?_)
   repeat' (first|exact trivial|rfl|exact And.intro rfl (And.intro (congrArg (C.s Own.own) (mix_set hml (get_map hy))) trivial)|refine And.intro ?_ ?_)
  ·repeat' ((conv=>whnf);first|with_reducible (first|refine Lm ?_|refine Wm (by omega) ?_|refine dF (by omega) (fun h => ?_)|refine Bn ?_|refine Fm rfl ?_)|refine Bt ?_|refine Bu ?_)
   rw [mix_end _ hml (by simp; omega)]
   rfl
theorem toObj_ok (x : DObj) (hs : DObj.sml x) : CallsA Tryz.prog 113 false [.val (some 4) (DObj.enc .imm x)] .agg (DObj.enc .own x) := by
 refine fO (n := 17) [] Tryz.func113 (by kernel_rfl) rfl (by kernel_rfl) (by rfl) (.inr (DObj.enc_fr x)) ?_
 repeat' ((conv=>whnf);first|with_reducible (first|refine Lm ?_|refine Wm (by omega) ?_|refine Bn ?_|refine Fm rfl ?_)|refine Bt ?_|refine Bu ?_)
 rfl
theorem toObjS_ok (x : List DObj) (hx : smlDObjS x) : CallsA Tryz.prog 37 false [.val none (rDObjS .imm x)] .one (rDObjS .own x) := by
 refine fO (n := 23) [] Tryz.func37 (by kernel_rfl) rfl (by kernel_rfl) (by rfl) (.inr (rDObjS_fr x)) ?_
 have hl : x.length ≤ 1048576 := hx.1
 have hml : (x.map (DObj.enc .own)).length = (List.replicate x.length ([I 0, I 0, I 0, I 0] : List C)).length := by simp
 repeat' ((conv=>whnf);first|with_reducible (first|refine Lm ?_|refine Wm (by omega) ?_|refine Bn ?_|refine Fm rfl ?_)|refine Bt ?_|refine Bu ?_|refine Mk.mk _ rfl rfl (by omega) (mkB hl (by decide)) rfl ?_)
 (conv=>whnf)
 refine Lp.mk (ι := Nat) (fun i => [(0, .hold .one (rDObjS .imm x)), (3, .hold .one [.s .own (mixR (x.map (DObj.enc .own)) (List.replicate x.length [I 0, I 0, I 0, I 0]) i)]), (4, .hold .one [I (i : Nat)])]) (fun i => i ≤ x.length) (fun i => x.length - i) 0 ?_ (Nat.zero_le _) fun i hi => ?_
 ·rw [mix_zero]
  repeat' (first|exact trivial|rfl|refine And.intro ?_ ?_)
 ·by_cases hlt : i < x.length
  ·obtain ⟨y, hy⟩ : ∃ y, x[i]? = some y := ⟨_, List.getElem?_eq_getElem hlt⟩
   have hr := mix_get hml i (by simp; omega)
   rw [get_rep hlt] at hr
   repeat' ((conv=>whnf);first|with_reducible (first|refine Lm ?_|refine Wm (by omega) ?_|refine dT (by omega) (fun h => ?_)|refine Ix.nat (get_map hy) ?_|refine Ix.nat hr ?_|refine Bn ?_|refine Fm rfl ?_)|refine Bt ?_|refine Bu ?_|refine Cl.mk (toObj_ok y trivial) ?_|refine Pu.one rfl rfl hr rfl (Nat.le_refl _) rfl ?_|refine Nx.mk (i + 1) (by omega) (by omega) ?_)
   repeat' (first|exact trivial|rfl|exact And.intro rfl (And.intro (congrArg (C.s Own.own) (mix_set hml (get_map hy))) trivial)|refine And.intro ?_ ?_)
  ·repeat' ((conv=>whnf);first|with_reducible (first|refine Lm ?_|refine Wm (by omega) ?_|refine dF (by omega) (fun h => ?_)|refine Bn ?_|refine Fm rfl ?_)|refine Bt ?_|refine Bu ?_)
   rw [mix_end _ hml (by simp; omega)]
   rfl
theorem toCache_ok (x : DCache) (hs : DCache.sml x) : CallsA Tryz.prog 114 false [.val (some 1) (DCache.enc .imm x)] .agg (DCache.enc .own x) := by
 have h0 := hs
 refine fO (n := 9) [] Tryz.func114 (by kernel_rfl) rfl (by kernel_rfl) (by rfl) (.inr (DCache.enc_fr x)) ?_
 repeat' ((conv=>whnf);first|with_reducible (first|refine Lm ?_|refine Wm (by omega) ?_|refine Bn ?_|refine Fm rfl ?_)|refine Bt ?_|refine Bu ?_|refine Cl.mk (toIntSS_ok x.Lists h0) ?_)
 rfl
theorem toCacheS_ok (x : List DCache) (hx : smlDCacheS x) : CallsA Tryz.prog 38 false [.val none (rDCacheS .imm x)] .one (rDCacheS .own x) := by
 refine fO (n := 23) [] Tryz.func38 (by kernel_rfl) rfl (by kernel_rfl) (by rfl) (.inr (rDCacheS_fr x)) ?_
 have hl : x.length ≤ 1048576 := hx.1
 have hml : (x.map (DCache.enc .own)).length = (List.replicate x.length ([.z] : List C)).length := by simp
 repeat' ((conv=>whnf);first|with_reducible (first|refine Lm ?_|refine Wm (by omega) ?_|refine Bn ?_|refine Fm rfl ?_)|refine Bt ?_|refine Bu ?_|refine Mk.mk _ rfl rfl (by omega) (mkB hl (by decide)) rfl ?_)
 (conv=>whnf)
 refine Lp.mk (ι := Nat) (fun i => [(0, .hold .one (rDCacheS .imm x)), (3, .hold .one [.s .own (mixR (x.map (DCache.enc .own)) (List.replicate x.length [.z]) i)]), (4, .hold .one [I (i : Nat)])]) (fun i => i ≤ x.length) (fun i => x.length - i) 0 ?_ (Nat.zero_le _) fun i hi => ?_
 ·rw [mix_zero]
  repeat' (first|exact trivial|rfl|refine And.intro ?_ ?_)
 ·by_cases hlt : i < x.length
  ·obtain ⟨y, hy⟩ : ∃ y, x[i]? = some y := ⟨_, List.getElem?_eq_getElem hlt⟩
   have hr := mix_get hml i (by simp; omega)
   rw [get_rep hlt] at hr
   repeat' ((conv=>whnf);first|with_reducible (first|refine Lm ?_|refine Wm (by omega) ?_|refine dT (by omega) (fun h => ?_)|refine Ix.nat (get_map hy) ?_|refine Ix.nat hr ?_|refine Bn ?_|refine Fm rfl ?_)|refine Bt ?_|refine Bu ?_|refine Cl.mk (toCache_ok y (hx.2 y (List.mem_of_getElem? hy))) ?_|refine Pu.one rfl rfl hr rfl (Nat.le_refl _) rfl ?_|refine Nx.mk (i + 1) (by omega) (by omega) ?_)
   repeat' (first|exact trivial|rfl|exact And.intro rfl (And.intro (congrArg (C.s Own.own) (mix_set hml (get_map hy))) trivial)|refine And.intro ?_ ?_)
  ·repeat' ((conv=>whnf);first|with_reducible (first|refine Lm ?_|refine Wm (by omega) ?_|refine dF (by omega) (fun h => ?_)|refine Bn ?_|refine Fm rfl ?_)|refine Bt ?_|refine Bu ?_)
   rw [mix_end _ hml (by simp; omega)]
   rfl
theorem toPost_ok (x : DPost) (hs : DPost.sml x) : CallsA Tryz.prog 302 false [.val (some 2) (DPost.enc .imm x)] .agg (DPost.enc .own x) := by
 refine fO (n := 11) [] Tryz.func302 (by kernel_rfl) rfl (by kernel_rfl) (by rfl) (.inr (DPost.enc_fr x)) ?_
 repeat' ((conv=>whnf);first|with_reducible (first|refine Lm ?_|refine Wm (by omega) ?_|refine Bn ?_|refine Fm rfl ?_)|refine Bt ?_|refine Bu ?_)
 rfl
theorem toPostS_ok (x : List DPost) (hx : smlDPostS x) : CallsA Tryz.prog 222 false [.val none (rDPostS .imm x)] .one (rDPostS .own x) := by
 refine fO (n := 23) [] Tryz.func222 (by kernel_rfl) rfl (by kernel_rfl) (by rfl) (.inr (rDPostS_fr x)) ?_
 have hl : x.length ≤ 1048576 := hx.1
 have hml : (x.map (DPost.enc .own)).length = (List.replicate x.length ([I 0, I 0] : List C)).length := by simp
 repeat' ((conv=>whnf);first|with_reducible (first|refine Lm ?_|refine Wm (by omega) ?_|refine Bn ?_|refine Fm rfl ?_)|refine Bt ?_|refine Bu ?_|refine Mk.mk _ rfl rfl (by omega) (mkB hl (by decide)) rfl ?_)
 (conv=>whnf)
 refine Lp.mk (ι := Nat) (fun i => [(0, .hold .one (rDPostS .imm x)), (3, .hold .one [.s .own (mixR (x.map (DPost.enc .own)) (List.replicate x.length [I 0, I 0]) i)]), (4, .hold .one [I (i : Nat)])]) (fun i => i ≤ x.length) (fun i => x.length - i) 0 ?_ (Nat.zero_le _) fun i hi => ?_
 ·rw [mix_zero]
  repeat' (first|exact trivial|rfl|refine And.intro ?_ ?_)
 ·by_cases hlt : i < x.length
  ·obtain ⟨y, hy⟩ : ∃ y, x[i]? = some y := ⟨_, List.getElem?_eq_getElem hlt⟩
   have hr := mix_get hml i (by simp; omega)
   rw [get_rep hlt] at hr
   repeat' ((conv=>whnf);first|with_reducible (first|refine Lm ?_|refine Wm (by omega) ?_|refine dT (by omega) (fun h => ?_)|refine Ix.nat (get_map hy) ?_|refine Ix.nat hr ?_|refine Bn ?_|refine Fm rfl ?_)|refine Bt ?_|refine Bu ?_|refine Cl.mk (toPost_ok y trivial) ?_|refine Pu.one rfl rfl hr rfl (Nat.le_refl _) rfl ?_|refine Nx.mk (i + 1) (by omega) (by omega) ?_)
   repeat' (first|exact trivial|rfl|exact And.intro rfl (And.intro (congrArg (C.s Own.own) (mix_set hml (get_map hy))) trivial)|refine And.intro ?_ ?_)
  ·repeat' ((conv=>whnf);first|with_reducible (first|refine Lm ?_|refine Wm (by omega) ?_|refine dF (by omega) (fun h => ?_)|refine Bn ?_|refine Fm rfl ?_)|refine Bt ?_|refine Bu ?_)
   rw [mix_end _ hml (by simp; omega)]
   rfl
theorem toPostSS_ok (x : List (List DPost)) (hx : smlDPostSS x) : CallsA Tryz.prog 115 false [.val none (rDPostSS .imm x)] .one (rDPostSS .own x) := by
 refine fO (n := 23) [] Tryz.func115 (by kernel_rfl) rfl (by kernel_rfl) (by rfl) (.inr (rDPostSS_fr x)) ?_
 have hl : x.length ≤ 1048576 := hx.1
 have hml : (x.map (rDPostS .own)).length = (List.replicate x.length ([.z] : List C)).length := by simp
 repeat' ((conv=>whnf);first|with_reducible (first|refine Lm ?_|refine Wm (by omega) ?_|refine Bn ?_|refine Fm rfl ?_)|refine Bt ?_|refine Bu ?_|refine Mk.mk _ rfl rfl (by omega) (mkB hl (by decide)) rfl ?_)
 (conv=>whnf)
 refine Lp.mk (ι := Nat) (fun i => [(0, .hold .one (rDPostSS .imm x)), (3, .hold .one [.s .own (mixR (x.map (rDPostS .own)) (List.replicate x.length [.z]) i)]), (4, .hold .one [I (i : Nat)])]) (fun i => i ≤ x.length) (fun i => x.length - i) 0 ?_ (Nat.zero_le _) fun i hi => ?_
 ·rw [mix_zero]
  repeat' (first|exact trivial|rfl|refine And.intro ?_ ?_)
 ·by_cases hlt : i < x.length
  ·obtain ⟨y, hy⟩ : ∃ y, x[i]? = some y := ⟨_, List.getElem?_eq_getElem hlt⟩
   have hr := mix_get hml i (by simp; omega)
   rw [get_rep hlt] at hr
   repeat' ((conv=>whnf);first|with_reducible (first|refine Lm ?_|refine Wm (by omega) ?_|refine dT (by omega) (fun h => ?_)|refine Ix.nat (get_map hy) ?_|refine Ix.nat hr ?_|refine Bn ?_|refine Fm rfl ?_)|refine Bt ?_|refine Bu ?_|refine Cl.mk (toPostS_ok y (hx.2 y (List.mem_of_getElem? hy))) ?_|refine Pu.one rfl rfl hr rfl (Nat.le_refl _) rfl ?_|refine Nx.mk (i + 1) (by omega) (by omega) ?_)
   repeat' (first|exact trivial|rfl|exact And.intro rfl (And.intro (congrArg (C.s Own.own) (mix_set hml (get_map hy))) trivial)|refine And.intro ?_ ?_)
  ·repeat' ((conv=>whnf);first|with_reducible (first|refine Lm ?_|refine Wm (by omega) ?_|refine dF (by omega) (fun h => ?_)|refine Bn ?_|refine Fm rfl ?_)|refine Bt ?_|refine Bu ?_)
   rw [mix_end _ hml (by simp; omega)]
   rfl
theorem toMail_ok (x : DMail) (hs : DMail.sml x) : CallsA Tryz.prog 39 false [.val (some 2) (DMail.enc .imm x)] .agg (DMail.enc .own x) := by
 obtain ⟨h0, h1⟩ := hs
 refine fO (n := 13) [] Tryz.func39 (by kernel_rfl) rfl (by kernel_rfl) (by rfl) (.inr (DMail.enc_fr x)) ?_
 repeat' ((conv=>whnf);first|with_reducible (first|refine Lm ?_|refine Wm (by omega) ?_|refine Bn ?_|refine Fm rfl ?_)|refine Bt ?_|refine Bu ?_|refine Cl.mk (toPostSS_ok x.Buffers h0) ?_|refine Cl.mk (toIntSS_ok x.Inbox h1) ?_)
 rfl
theorem toStale_ok (x : DStale) (hs : DStale.sml x) : CallsA Tryz.prog 223 false [.val (some 3) (DStale.enc .imm x)] .agg (DStale.enc .own x) := by
 refine fO (n := 14) [] Tryz.func223 (by kernel_rfl) rfl (by kernel_rfl) (by rfl) (.inr (DStale.enc_fr x)) ?_
 repeat' ((conv=>whnf);first|with_reducible (first|refine Lm ?_|refine Wm (by omega) ?_|refine Bn ?_|refine Fm rfl ?_)|refine Bt ?_|refine Bu ?_)
 rfl
theorem toStaleS_ok (x : List DStale) (hx : smlDStaleS x) : CallsA Tryz.prog 117 false [.val none (rDStaleS .imm x)] .one (rDStaleS .own x) := by
 refine fO (n := 23) [] Tryz.func117 (by kernel_rfl) rfl (by kernel_rfl) (by rfl) (.inr (rDStaleS_fr x)) ?_
 have hl : x.length ≤ 1048576 := hx.1
 have hml : (x.map (DStale.enc .own)).length = (List.replicate x.length ([I 0, I 0, I 0] : List C)).length := by simp
 repeat' ((conv=>whnf);first|with_reducible (first|refine Lm ?_|refine Wm (by omega) ?_|refine Bn ?_|refine Fm rfl ?_)|refine Bt ?_|refine Bu ?_|refine Mk.mk _ rfl rfl (by omega) (mkB hl (by decide)) rfl ?_)
 (conv=>whnf)
 refine Lp.mk (ι := Nat) (fun i => [(0, .hold .one (rDStaleS .imm x)), (3, .hold .one [.s .own (mixR (x.map (DStale.enc .own)) (List.replicate x.length [I 0, I 0, I 0]) i)]), (4, .hold .one [I (i : Nat)])]) (fun i => i ≤ x.length) (fun i => x.length - i) 0 ?_ (Nat.zero_le _) fun i hi => ?_
 ·rw [mix_zero]
  repeat' (first|exact trivial|rfl|refine And.intro ?_ ?_)
 ·by_cases hlt : i < x.length
  ·obtain ⟨y, hy⟩ : ∃ y, x[i]? = some y := ⟨_, List.getElem?_eq_getElem hlt⟩
   have hr := mix_get hml i (by simp; omega)
   rw [get_rep hlt] at hr
   repeat' ((conv=>whnf);first|with_reducible (first|refine Lm ?_|refine Wm (by omega) ?_|refine dT (by omega) (fun h => ?_)|refine Ix.nat (get_map hy) ?_|refine Ix.nat hr ?_|refine Bn ?_|refine Fm rfl ?_)|refine Bt ?_|refine Bu ?_|refine Cl.mk (toStale_ok y trivial) ?_|refine Pu.one rfl rfl hr rfl (Nat.le_refl _) rfl ?_|refine Nx.mk (i + 1) (by omega) (by omega) ?_)
   repeat' (first|exact trivial|rfl|exact And.intro rfl (And.intro (congrArg (C.s Own.own) (mix_set hml (get_map hy))) trivial)|refine And.intro ?_ ?_)
  ·repeat' ((conv=>whnf);first|with_reducible (first|refine Lm ?_|refine Wm (by omega) ?_|refine dF (by omega) (fun h => ?_)|refine Bn ?_|refine Fm rfl ?_)|refine Bt ?_|refine Bu ?_)
   rw [mix_end _ hml (by simp; omega)]
   rfl
theorem toQuar_ok (x : DQuar) (hs : DQuar.sml x) : CallsA Tryz.prog 40 false [.val (some 2) (DQuar.enc .imm x)] .agg (DQuar.enc .own x) := by
 have h0 := hs
 refine fO (n := 12) [] Tryz.func40 (by kernel_rfl) rfl (by kernel_rfl) (by rfl) (.inr (DQuar.enc_fr x)) ?_
 repeat' ((conv=>whnf);first|with_reducible (first|refine Lm ?_|refine Wm (by omega) ?_|refine Bn ?_|refine Fm rfl ?_)|refine Bt ?_|refine Bu ?_|refine Cl.mk (toStaleS_ok x.Lst h0) ?_)
 rfl
theorem toPlan_ok (x : DPlan) (hs : DPlan.sml x) : CallsA Tryz.prog 118 false [.val (some 3) (DPlan.enc .imm x)] .agg (DPlan.enc .own x) := by
 have h0 := hs
 refine fO (n := 15) [] Tryz.func118 (by kernel_rfl) rfl (by kernel_rfl) (by rfl) (.inr (DPlan.enc_fr x)) ?_
 repeat' ((conv=>whnf);first|with_reducible (first|refine Lm ?_|refine Wm (by omega) ?_|refine Bn ?_|refine Fm rfl ?_)|refine Bt ?_|refine Bu ?_|refine Cl.mk (toIntS_ok x.Cells h0) ?_)
 rfl
theorem toJob_ok (x : DJob) (hs : DJob.sml x) : CallsA Tryz.prog 41 false [.val (some 5) (DJob.enc .imm x)] .agg (DJob.enc .own x) := by
 have h0 := hs
 refine fO (n := 15) [] Tryz.func41 (by kernel_rfl) rfl (by kernel_rfl) (by rfl) (.inr (DJob.enc_fr x)) ?_
 repeat' ((conv=>whnf);first|with_reducible (first|refine Lm ?_|refine Wm (by omega) ?_|refine Bn ?_|refine Fm rfl ?_)|refine Bt ?_|refine Bu ?_|refine Cl.mk (toPlan_ok x.Plan h0) ?_)
 rfl
theorem toHeap_ok (x : DHeap) (hs : DHeap.sml x) : CallsA Tryz.prog 8 false [.val (some 24) (DHeap.enc .imm x)] .agg (DHeap.enc .own x) := by
 obtain ⟨h0, h1, h2, h3, h4, h5, h6, h7, h8⟩ := hs
 refine fO (n := 56) [] Tryz.func8 (by kernel_rfl) rfl (by kernel_rfl) (by rfl) (.inr (DHeap.enc_fr x)) ?_
 repeat' ((conv=>whnf);first|with_reducible (first|refine Lm ?_|refine Wm (by omega) ?_|refine Bn ?_|refine Fm rfl ?_)|refine Bt ?_|refine Bu ?_|refine Cl.mk (toKernel_ok x.Kernel h0) ?_|refine Cl.mk (toRangeS_ok x.Free h1) ?_|refine Cl.mk (toSpanS_ok x.Spans h2) ?_|refine Cl.mk (toLargeS_ok x.Larges h3) ?_|refine Cl.mk (toObjS_ok x.Objs h4) ?_|refine Cl.mk (toCacheS_ok x.Caches h5) ?_|refine Cl.mk (toMail_ok x.Mail h6) ?_|refine Cl.mk (toQuar_ok x.Quar h7) ?_|refine Cl.mk (toJob_ok x.Job h8) ?_)
 rfl
end Go.Proofs.YtogajjgmcnjkbaaGreat.Ab
/- Contracts of the laws' generic functions (sz). Printed by gen_con.py. No condition. -/
namespace Go.Proofs.YtogajjgmcnjkbaaGreat.Ab
open Go.RowKit
set_option maxRecDepth 20000
set_option maxHeartbeats 2000000

theorem szIntS_ok (x : List Int) (left : Int) (h0 : 0 ≤ left) (h1 : left ≤ 1048576) (hw : wfIntS x) : CallsA Tryz.prog 83 false [.val none (rIntS .imm x), .val none [I left]] .one [I (szR (szIntS x) left)] := by
 refine fO (n := 12) [] Tryz.func83 (by kernel_rfl) rfl (by kernel_rfl) (by rfl) (.inr ⟨trivial, trivial⟩) ?_
 have hl := hw.1
 repeat' ((conv=>whnf);first|with_reducible (first|refine Lm ?_|refine Wm (by omega) ?_|refine dF (by omega) (fun h => ?_)|refine dT (by omega) (fun h => ?_)|refine Bf.D (fun h => ?_) (fun h => ?_)|refine Bn ?_|refine Fm rfl ?_)|refine Bt ?_|refine Bu ?_)
 all_goals exact congrArg (fun z => [I z]) (by unfold szR szIntS; split <;> omega)
theorem szIntSS_ok (x : List (List Int)) (left : Int) (h0 : 0 ≤ left) (h1 : left ≤ 1048576) (hw : wfIntSS x) : CallsA Tryz.prog 86 false [.val none (rIntSS .imm x), .val none [I left]] .one [I (szR (szIntSS x) left)] := by
 refine fO (n := 27) [] Tryz.func86 (by kernel_rfl) rfl (by kernel_rfl) (by rfl) (.inr ⟨trivial, trivial⟩) ?_
 have hl := hw.1
 repeat' ((conv=>whnf);first|with_reducible (first|refine Lm ?_|refine Wm (by omega) ?_|refine dF (by omega) (fun h => ?_)|refine dT (by omega) (fun h => ?_)|refine Bf.D (fun h => ?_) (fun h => ?_)|refine Bn ?_|refine Fm rfl ?_)|refine Bt ?_|refine Bu ?_)
 ·exact congrArg (fun z => [I z]) (by unfold szR szIntSS; split <;> omega)
 (conv=>whnf)
 refine Lp.mk (ι := Nat) (fun i => [(0, .hold .one (rIntSS .imm x)), (1, .hold .one [I (left - x.length - (spreIntSS x i : Nat))]), (5, .hold .one [I (i : Nat)])]) (fun i => i ≤ x.length ∧ (x.length + spreIntSS x i : Int) ≤ left) (fun i => x.length - i) 0 ?_ ⟨Nat.zero_le _, by rw [spreIntSS_zero]; omega⟩ fun i hi => ?_
 ·rw [spreIntSS_zero]
  repeat' (first|exact trivial|rfl|exact And.intro rfl (And.intro (congrArg I (by omega)) trivial)|refine And.intro ?_ ?_)
 ·obtain ⟨hi, hpi⟩ := hi
  have hpl := spreIntSS_le x i
  by_cases hlt : i < x.length
  ·obtain ⟨y, hy⟩ : ∃ y, x[i]? = some y := ⟨_, List.getElem?_eq_getElem hlt⟩
   have hps := spreIntSS_succ x i y hy
   have hpl2 := spreIntSS_le x (i + 1)
   repeat' ((conv=>whnf);first|with_reducible (first|refine Lm ?_|refine Wm (by omega) ?_|refine Ix.nat (get_map hy) ?_|refine dF (by omega) (fun h => ?_)|refine dT (by omega) (fun h => ?_)|refine Bf.D (fun h => ?_) (fun h => ?_)|refine Bn ?_|refine Fm rfl ?_)|refine Bt ?_|refine Bu ?_|refine Cl.sz (szIntS_ok y _ (by omega) (by omega) (hw.2 y (List.mem_of_getElem? hy))) (fun h => ?_) (fun h => ?_)|refine Nx.mk (i + 1) ⟨by omega, by omega⟩ (by omega) ?_)
   ·exact congrArg (fun z => [I z]) (by unfold szR szIntSS; split <;> omega)
   ·rw [hps]
    repeat' (first|exact trivial|rfl|exact And.intro rfl (And.intro (congrArg I (by omega)) trivial)|refine And.intro ?_ ?_)
  ·repeat' ((conv=>whnf);first|with_reducible (first|refine Lm ?_|refine Wm (by omega) ?_|refine dF (by omega) (fun h => ?_)|refine dT (by omega) (fun h => ?_)|refine Bf.D (fun h => ?_) (fun h => ?_)|refine Bn ?_|refine Fm rfl ?_)|refine Bt ?_|refine Bu ?_)
   have he : i = x.length := by omega
   subst he
   rw [spreIntSS_all] at hpi ⊢
   exact congrArg (fun z => [I z]) (by unfold szR szIntSS; split <;> omega)
theorem szBoolS_ok (x : List Bool) (left : Int) (h0 : 0 ≤ left) (h1 : left ≤ 1048576) (hw : wfBoolS x) : CallsA Tryz.prog 287 false [.val none (rBoolS .imm x), .val none [I left]] .one [I (szR (szBoolS x) left)] := by
 refine fO (n := 12) [] Tryz.func287 (by kernel_rfl) rfl (by kernel_rfl) (by rfl) (.inr ⟨trivial, trivial⟩) ?_
 have hl := hw.1
 repeat' ((conv=>whnf);first|with_reducible (first|refine Lm ?_|refine Wm (by omega) ?_|refine dF (by omega) (fun h => ?_)|refine dT (by omega) (fun h => ?_)|refine Bf.D (fun h => ?_) (fun h => ?_)|refine Bn ?_|refine Fm rfl ?_)|refine Bt ?_|refine Bu ?_)
 all_goals exact congrArg (fun z => [I z]) (by unfold szR szBoolS; split <;> omega)
theorem szFrames_ok (x : DFrames) (left : Int) (h0 : 0 ≤ left) (h1 : left ≤ 1048576) (hw : DFrames.wf x) : CallsA Tryz.prog 198 false [.val (some 2) (DFrames.enc .imm x), .val none [I left]] .one [I (szR (DFrames.sz x) left)] := by
 obtain ⟨wCells, wUsed⟩ := hw
 refine fO (n := 18) [] Tryz.func198 (by kernel_rfl) rfl (by kernel_rfl) (by rfl) (.inr ⟨trivial, trivial⟩) ?_
 repeat' ((conv=>whnf);first|with_reducible (first|refine Lm ?_|refine Wm (by omega) ?_|refine dF (by omega) (fun h => ?_)|refine dT (by omega) (fun h => ?_)|refine Bf.D (fun h => ?_) (fun h => ?_)|refine Bn ?_|refine Fm rfl ?_)|refine Bt ?_|refine Bu ?_|refine Cl.sz (szIntSS_ok x.Cells _ (by omega) (by omega) wCells) (fun h => ?_) (fun h => ?_)|refine Cl.sz (szBoolS_ok x.Used _ (by omega) (by omega) wUsed) (fun h => ?_) (fun h => ?_))
 all_goals exact congrArg (fun z => [I z]) (by unfold szR DFrames.sz; split <;> omega)
theorem szEntryS_ok (x : List DEntry) (left : Int) (h0 : 0 ≤ left) (h1 : left ≤ 1048576) (hw : wfDEntryS x) : CallsA Tryz.prog 288 false [.val none (rDEntryS .imm x), .val none [I left]] .one [I (szR (szDEntryS x) left)] := by
 refine fO (n := 12) [] Tryz.func288 (by kernel_rfl) rfl (by kernel_rfl) (by rfl) (.inr ⟨trivial, trivial⟩) ?_
 have hl := hw.1
 repeat' ((conv=>whnf);first|with_reducible (first|refine Lm ?_|refine Wm (by omega) ?_|refine dF (by omega) (fun h => ?_)|refine dT (by omega) (fun h => ?_)|refine Bf.D (fun h => ?_) (fun h => ?_)|refine Bn ?_|refine Fm rfl ?_)|refine Bt ?_|refine Bu ?_)
 all_goals exact congrArg (fun z => [I z]) (by unfold szR szDEntryS; split <;> omega)
theorem szTable_ok (x : DTable) (left : Int) (h0 : 0 ≤ left) (h1 : left ≤ 1048576) (hw : DTable.wf x) : CallsA Tryz.prog 199 false [.val (some 1) (DTable.enc .imm x), .val none [I left]] .one [I (szR (DTable.sz x) left)] := by
 refine fO (n := 12) [] Tryz.func199 (by kernel_rfl) rfl (by kernel_rfl) (by rfl) (.inr ⟨trivial, trivial⟩) ?_
 repeat' ((conv=>whnf);first|with_reducible (first|refine Lm ?_|refine Wm (by omega) ?_|refine dF (by omega) (fun h => ?_)|refine dT (by omega) (fun h => ?_)|refine Bf.D (fun h => ?_) (fun h => ?_)|refine Bn ?_|refine Fm rfl ?_)|refine Bt ?_|refine Bu ?_|refine Cl.sz (szEntryS_ok x.Entries _ (by omega) (by omega) hw) (fun h => ?_) (fun h => ?_))
 all_goals exact congrArg (fun z => [I z]) (by unfold szR DTable.sz; split <;> omega)
theorem szMachine_ok (x : DMachine) (left : Int) (h0 : 0 ≤ left) (h1 : left ≤ 1048576) (hw : DMachine.wf x) : CallsA Tryz.prog 82 false [.val (some 3) (DMachine.enc .imm x), .val none [I left]] .one [I (szR (DMachine.sz x) left)] := by
 obtain ⟨wFrames, wTable⟩ := hw
 refine fO (n := 18) [] Tryz.func82 (by kernel_rfl) rfl (by kernel_rfl) (by rfl) (.inr ⟨trivial, trivial⟩) ?_
 repeat' ((conv=>whnf);first|with_reducible (first|refine Lm ?_|refine Wm (by omega) ?_|refine dF (by omega) (fun h => ?_)|refine dT (by omega) (fun h => ?_)|refine Bf.D (fun h => ?_) (fun h => ?_)|refine Bn ?_|refine Fm rfl ?_)|refine Bt ?_|refine Bu ?_|refine Cl.sz (szFrames_ok x.Frames _ (by omega) (by omega) wFrames) (fun h => ?_) (fun h => ?_)|refine Cl.sz (szTable_ok x.Table _ (by omega) (by omega) wTable) (fun h => ?_) (fun h => ?_))
 all_goals exact congrArg (fun z => [I z]) (by unfold szR DMachine.sz; split <;> omega)
theorem szKernel_ok (x : DKernel) (left : Int) (h0 : 0 ≤ left) (h1 : left ≤ 1048576) (hw : DKernel.wf x) : CallsA Tryz.prog 17 false [.val (some 5) (DKernel.enc .imm x), .val none [I left]] .one [I (szR (DKernel.sz x) left)] := by
 obtain ⟨wMachine, wCalls, wRefuse⟩ := hw
 refine fO (n := 18) [] Tryz.func17 (by kernel_rfl) rfl (by kernel_rfl) (by rfl) (.inr ⟨trivial, trivial⟩) ?_
 repeat' ((conv=>whnf);first|with_reducible (first|refine Lm ?_|refine Wm (by omega) ?_|refine dF (by omega) (fun h => ?_)|refine dT (by omega) (fun h => ?_)|refine Bf.D (fun h => ?_) (fun h => ?_)|refine Bn ?_|refine Fm rfl ?_)|refine Bt ?_|refine Bu ?_|refine Cl.sz (szMachine_ok x.Machine _ (by omega) (by omega) wMachine) (fun h => ?_) (fun h => ?_)|refine Cl.sz (szIntS_ok x.Refuse _ (by omega) (by omega) wRefuse) (fun h => ?_) (fun h => ?_))
 all_goals exact congrArg (fun z => [I z]) (by unfold szR DKernel.sz; split <;> omega)
theorem szRangeS_ok (x : List DRange) (left : Int) (h0 : 0 ≤ left) (h1 : left ≤ 1048576) (hw : wfDRangeS x) : CallsA Tryz.prog 18 false [.val none (rDRangeS .imm x), .val none [I left]] .one [I (szR (szDRangeS x) left)] := by
 refine fO (n := 12) [] Tryz.func18 (by kernel_rfl) rfl (by kernel_rfl) (by rfl) (.inr ⟨trivial, trivial⟩) ?_
 have hl := hw.1
 repeat' ((conv=>whnf);first|with_reducible (first|refine Lm ?_|refine Wm (by omega) ?_|refine dF (by omega) (fun h => ?_)|refine dT (by omega) (fun h => ?_)|refine Bf.D (fun h => ?_) (fun h => ?_)|refine Bn ?_|refine Fm rfl ?_)|refine Bt ?_|refine Bu ?_)
 all_goals exact congrArg (fun z => [I z]) (by unfold szR szDRangeS; split <;> omega)
theorem szSpanS_ok (x : List DSpan) (left : Int) (h0 : 0 ≤ left) (h1 : left ≤ 1048576) (hw : wfDSpanS x) : CallsA Tryz.prog 19 false [.val none (rDSpanS .imm x), .val none [I left]] .one [I (szR (szDSpanS x) left)] := by
 refine fO (n := 12) [] Tryz.func19 (by kernel_rfl) rfl (by kernel_rfl) (by rfl) (.inr ⟨trivial, trivial⟩) ?_
 have hl := hw.1
 repeat' ((conv=>whnf);first|with_reducible (first|refine Lm ?_|refine Wm (by omega) ?_|refine dF (by omega) (fun h => ?_)|refine dT (by omega) (fun h => ?_)|refine Bf.D (fun h => ?_) (fun h => ?_)|refine Bn ?_|refine Fm rfl ?_)|refine Bt ?_|refine Bu ?_)
 all_goals exact congrArg (fun z => [I z]) (by unfold szR szDSpanS; split <;> omega)
theorem szLargeS_ok (x : List DLarge) (left : Int) (h0 : 0 ≤ left) (h1 : left ≤ 1048576) (hw : wfDLargeS x) : CallsA Tryz.prog 20 false [.val none (rDLargeS .imm x), .val none [I left]] .one [I (szR (szDLargeS x) left)] := by
 refine fO (n := 12) [] Tryz.func20 (by kernel_rfl) rfl (by kernel_rfl) (by rfl) (.inr ⟨trivial, trivial⟩) ?_
 have hl := hw.1
 repeat' ((conv=>whnf);first|with_reducible (first|refine Lm ?_|refine Wm (by omega) ?_|refine dF (by omega) (fun h => ?_)|refine dT (by omega) (fun h => ?_)|refine Bf.D (fun h => ?_) (fun h => ?_)|refine Bn ?_|refine Fm rfl ?_)|refine Bt ?_|refine Bu ?_)
 all_goals exact congrArg (fun z => [I z]) (by unfold szR szDLargeS; split <;> omega)
theorem szObjS_ok (x : List DObj) (left : Int) (h0 : 0 ≤ left) (h1 : left ≤ 1048576) (hw : wfDObjS x) : CallsA Tryz.prog 21 false [.val none (rDObjS .imm x), .val none [I left]] .one [I (szR (szDObjS x) left)] := by
 refine fO (n := 12) [] Tryz.func21 (by kernel_rfl) rfl (by kernel_rfl) (by rfl) (.inr ⟨trivial, trivial⟩) ?_
 have hl := hw.1
 repeat' ((conv=>whnf);first|with_reducible (first|refine Lm ?_|refine Wm (by omega) ?_|refine dF (by omega) (fun h => ?_)|refine dT (by omega) (fun h => ?_)|refine Bf.D (fun h => ?_) (fun h => ?_)|refine Bn ?_|refine Fm rfl ?_)|refine Bt ?_|refine Bu ?_)
 all_goals exact congrArg (fun z => [I z]) (by unfold szR szDObjS; split <;> omega)
theorem szCache_ok (x : DCache) (left : Int) (h0 : 0 ≤ left) (h1 : left ≤ 1048576) (hw : DCache.wf x) : CallsA Tryz.prog 84 false [.val (some 1) (DCache.enc .imm x), .val none [I left]] .one [I (szR (DCache.sz x) left)] := by
 refine fO (n := 12) [] Tryz.func84 (by kernel_rfl) rfl (by kernel_rfl) (by rfl) (.inr ⟨trivial, trivial⟩) ?_
 repeat' ((conv=>whnf);first|with_reducible (first|refine Lm ?_|refine Wm (by omega) ?_|refine dF (by omega) (fun h => ?_)|refine dT (by omega) (fun h => ?_)|refine Bf.D (fun h => ?_) (fun h => ?_)|refine Bn ?_|refine Fm rfl ?_)|refine Bt ?_|refine Bu ?_|refine Cl.sz (szIntSS_ok x.Lists _ (by omega) (by omega) hw) (fun h => ?_) (fun h => ?_))
 all_goals exact congrArg (fun z => [I z]) (by unfold szR DCache.sz; split <;> omega)
theorem szCacheS_ok (x : List DCache) (left : Int) (h0 : 0 ≤ left) (h1 : left ≤ 1048576) (hw : wfDCacheS x) : CallsA Tryz.prog 22 false [.val none (rDCacheS .imm x), .val none [I left]] .one [I (szR (szDCacheS x) left)] := by
 refine fO (n := 27) [] Tryz.func22 (by kernel_rfl) rfl (by kernel_rfl) (by rfl) (.inr ⟨trivial, trivial⟩) ?_
 have hl := hw.1
 repeat' ((conv=>whnf);first|with_reducible (first|refine Lm ?_|refine Wm (by omega) ?_|refine dF (by omega) (fun h => ?_)|refine dT (by omega) (fun h => ?_)|refine Bf.D (fun h => ?_) (fun h => ?_)|refine Bn ?_|refine Fm rfl ?_)|refine Bt ?_|refine Bu ?_)
 ·exact congrArg (fun z => [I z]) (by unfold szR szDCacheS; split <;> omega)
 (conv=>whnf)
 refine Lp.mk (ι := Nat) (fun i => [(0, .hold .one (rDCacheS .imm x)), (1, .hold .one [I (left - x.length - (spreDCacheS x i : Nat))]), (5, .hold .one [I (i : Nat)])]) (fun i => i ≤ x.length ∧ (x.length + spreDCacheS x i : Int) ≤ left) (fun i => x.length - i) 0 ?_ ⟨Nat.zero_le _, by rw [spreDCacheS_zero]; omega⟩ fun i hi => ?_
 ·rw [spreDCacheS_zero]
  repeat' (first|exact trivial|rfl|exact And.intro rfl (And.intro (congrArg I (by omega)) trivial)|refine And.intro ?_ ?_)
 ·obtain ⟨hi, hpi⟩ := hi
  have hpl := spreDCacheS_le x i
  by_cases hlt : i < x.length
  ·obtain ⟨y, hy⟩ : ∃ y, x[i]? = some y := ⟨_, List.getElem?_eq_getElem hlt⟩
   have hps := spreDCacheS_succ x i y hy
   have hpl2 := spreDCacheS_le x (i + 1)
   repeat' ((conv=>whnf);first|with_reducible (first|refine Lm ?_|refine Wm (by omega) ?_|refine Ix.nat (get_map hy) ?_|refine dF (by omega) (fun h => ?_)|refine dT (by omega) (fun h => ?_)|refine Bf.D (fun h => ?_) (fun h => ?_)|refine Bn ?_|refine Fm rfl ?_)|refine Bt ?_|refine Bu ?_|refine Cl.sz (szCache_ok y _ (by omega) (by omega) (hw.2 y (List.mem_of_getElem? hy))) (fun h => ?_) (fun h => ?_)|refine Nx.mk (i + 1) ⟨by omega, by omega⟩ (by omega) ?_)
   ·exact congrArg (fun z => [I z]) (by unfold szR szDCacheS; split <;> omega)
   ·rw [hps]
    repeat' (first|exact trivial|rfl|exact And.intro rfl (And.intro (congrArg I (by omega)) trivial)|refine And.intro ?_ ?_)
  ·repeat' ((conv=>whnf);first|with_reducible (first|refine Lm ?_|refine Wm (by omega) ?_|refine dF (by omega) (fun h => ?_)|refine dT (by omega) (fun h => ?_)|refine Bf.D (fun h => ?_) (fun h => ?_)|refine Bn ?_|refine Fm rfl ?_)|refine Bt ?_|refine Bu ?_)
   have he : i = x.length := by omega
   subst he
   rw [spreDCacheS_all] at hpi ⊢
   exact congrArg (fun z => [I z]) (by unfold szR szDCacheS; split <;> omega)
theorem szPostS_ok (x : List DPost) (left : Int) (h0 : 0 ≤ left) (h1 : left ≤ 1048576) (hw : wfDPostS x) : CallsA Tryz.prog 200 false [.val none (rDPostS .imm x), .val none [I left]] .one [I (szR (szDPostS x) left)] := by
 refine fO (n := 12) [] Tryz.func200 (by kernel_rfl) rfl (by kernel_rfl) (by rfl) (.inr ⟨trivial, trivial⟩) ?_
 have hl := hw.1
 repeat' ((conv=>whnf);first|with_reducible (first|refine Lm ?_|refine Wm (by omega) ?_|refine dF (by omega) (fun h => ?_)|refine dT (by omega) (fun h => ?_)|refine Bf.D (fun h => ?_) (fun h => ?_)|refine Bn ?_|refine Fm rfl ?_)|refine Bt ?_|refine Bu ?_)
 all_goals exact congrArg (fun z => [I z]) (by unfold szR szDPostS; split <;> omega)
theorem szPostSS_ok (x : List (List DPost)) (left : Int) (h0 : 0 ≤ left) (h1 : left ≤ 1048576) (hw : wfDPostSS x) : CallsA Tryz.prog 85 false [.val none (rDPostSS .imm x), .val none [I left]] .one [I (szR (szDPostSS x) left)] := by
 refine fO (n := 27) [] Tryz.func85 (by kernel_rfl) rfl (by kernel_rfl) (by rfl) (.inr ⟨trivial, trivial⟩) ?_
 have hl := hw.1
 repeat' ((conv=>whnf);first|with_reducible (first|refine Lm ?_|refine Wm (by omega) ?_|refine dF (by omega) (fun h => ?_)|refine dT (by omega) (fun h => ?_)|refine Bf.D (fun h => ?_) (fun h => ?_)|refine Bn ?_|refine Fm rfl ?_)|refine Bt ?_|refine Bu ?_)
 ·exact congrArg (fun z => [I z]) (by unfold szR szDPostSS; split <;> omega)
 (conv=>whnf)
 refine Lp.mk (ι := Nat) (fun i => [(0, .hold .one (rDPostSS .imm x)), (1, .hold .one [I (left - x.length - (spreDPostSS x i : Nat))]), (5, .hold .one [I (i : Nat)])]) (fun i => i ≤ x.length ∧ (x.length + spreDPostSS x i : Int) ≤ left) (fun i => x.length - i) 0 ?_ ⟨Nat.zero_le _, by rw [spreDPostSS_zero]; omega⟩ fun i hi => ?_
 ·rw [spreDPostSS_zero]
  repeat' (first|exact trivial|rfl|exact And.intro rfl (And.intro (congrArg I (by omega)) trivial)|refine And.intro ?_ ?_)
 ·obtain ⟨hi, hpi⟩ := hi
  have hpl := spreDPostSS_le x i
  by_cases hlt : i < x.length
  ·obtain ⟨y, hy⟩ : ∃ y, x[i]? = some y := ⟨_, List.getElem?_eq_getElem hlt⟩
   have hps := spreDPostSS_succ x i y hy
   have hpl2 := spreDPostSS_le x (i + 1)
   repeat' ((conv=>whnf);first|with_reducible (first|refine Lm ?_|refine Wm (by omega) ?_|refine Ix.nat (get_map hy) ?_|refine dF (by omega) (fun h => ?_)|refine dT (by omega) (fun h => ?_)|refine Bf.D (fun h => ?_) (fun h => ?_)|refine Bn ?_|refine Fm rfl ?_)|refine Bt ?_|refine Bu ?_|refine Cl.sz (szPostS_ok y _ (by omega) (by omega) (hw.2 y (List.mem_of_getElem? hy))) (fun h => ?_) (fun h => ?_)|refine Nx.mk (i + 1) ⟨by omega, by omega⟩ (by omega) ?_)
   ·exact congrArg (fun z => [I z]) (by unfold szR szDPostSS; split <;> omega)
   ·rw [hps]
    repeat' (first|exact trivial|rfl|exact And.intro rfl (And.intro (congrArg I (by omega)) trivial)|refine And.intro ?_ ?_)
  ·repeat' ((conv=>whnf);first|with_reducible (first|refine Lm ?_|refine Wm (by omega) ?_|refine dF (by omega) (fun h => ?_)|refine dT (by omega) (fun h => ?_)|refine Bf.D (fun h => ?_) (fun h => ?_)|refine Bn ?_|refine Fm rfl ?_)|refine Bt ?_|refine Bu ?_)
   have he : i = x.length := by omega
   subst he
   rw [spreDPostSS_all] at hpi ⊢
   exact congrArg (fun z => [I z]) (by unfold szR szDPostSS; split <;> omega)
theorem szMail_ok (x : DMail) (left : Int) (h0 : 0 ≤ left) (h1 : left ≤ 1048576) (hw : DMail.wf x) : CallsA Tryz.prog 23 false [.val (some 2) (DMail.enc .imm x), .val none [I left]] .one [I (szR (DMail.sz x) left)] := by
 obtain ⟨wBuffers, wInbox⟩ := hw
 refine fO (n := 18) [] Tryz.func23 (by kernel_rfl) rfl (by kernel_rfl) (by rfl) (.inr ⟨trivial, trivial⟩) ?_
 repeat' ((conv=>whnf);first|with_reducible (first|refine Lm ?_|refine Wm (by omega) ?_|refine dF (by omega) (fun h => ?_)|refine dT (by omega) (fun h => ?_)|refine Bf.D (fun h => ?_) (fun h => ?_)|refine Bn ?_|refine Fm rfl ?_)|refine Bt ?_|refine Bu ?_|refine Cl.sz (szPostSS_ok x.Buffers _ (by omega) (by omega) wBuffers) (fun h => ?_) (fun h => ?_)|refine Cl.sz (szIntSS_ok x.Inbox _ (by omega) (by omega) wInbox) (fun h => ?_) (fun h => ?_))
 all_goals exact congrArg (fun z => [I z]) (by unfold szR DMail.sz; split <;> omega)
theorem szStaleS_ok (x : List DStale) (left : Int) (h0 : 0 ≤ left) (h1 : left ≤ 1048576) (hw : wfDStaleS x) : CallsA Tryz.prog 87 false [.val none (rDStaleS .imm x), .val none [I left]] .one [I (szR (szDStaleS x) left)] := by
 refine fO (n := 12) [] Tryz.func87 (by kernel_rfl) rfl (by kernel_rfl) (by rfl) (.inr ⟨trivial, trivial⟩) ?_
 have hl := hw.1
 repeat' ((conv=>whnf);first|with_reducible (first|refine Lm ?_|refine Wm (by omega) ?_|refine dF (by omega) (fun h => ?_)|refine dT (by omega) (fun h => ?_)|refine Bf.D (fun h => ?_) (fun h => ?_)|refine Bn ?_|refine Fm rfl ?_)|refine Bt ?_|refine Bu ?_)
 all_goals exact congrArg (fun z => [I z]) (by unfold szR szDStaleS; split <;> omega)
theorem szQuar_ok (x : DQuar) (left : Int) (h0 : 0 ≤ left) (h1 : left ≤ 1048576) (hw : DQuar.wf x) : CallsA Tryz.prog 24 false [.val (some 2) (DQuar.enc .imm x), .val none [I left]] .one [I (szR (DQuar.sz x) left)] := by
 obtain ⟨wRoom, wLst⟩ := hw
 refine fO (n := 12) [] Tryz.func24 (by kernel_rfl) rfl (by kernel_rfl) (by rfl) (.inr ⟨trivial, trivial⟩) ?_
 repeat' ((conv=>whnf);first|with_reducible (first|refine Lm ?_|refine Wm (by omega) ?_|refine dF (by omega) (fun h => ?_)|refine dT (by omega) (fun h => ?_)|refine Bf.D (fun h => ?_) (fun h => ?_)|refine Bn ?_|refine Fm rfl ?_)|refine Bt ?_|refine Bu ?_|refine Cl.sz (szStaleS_ok x.Lst _ (by omega) (by omega) wLst) (fun h => ?_) (fun h => ?_))
 all_goals exact congrArg (fun z => [I z]) (by unfold szR DQuar.sz; split <;> omega)
theorem szPlan_ok (x : DPlan) (left : Int) (h0 : 0 ≤ left) (h1 : left ≤ 1048576) (hw : DPlan.wf x) : CallsA Tryz.prog 88 false [.val (some 3) (DPlan.enc .imm x), .val none [I left]] .one [I (szR (DPlan.sz x) left)] := by
 obtain ⟨wKeep, wMove, wCells⟩ := hw
 refine fO (n := 12) [] Tryz.func88 (by kernel_rfl) rfl (by kernel_rfl) (by rfl) (.inr ⟨trivial, trivial⟩) ?_
 repeat' ((conv=>whnf);first|with_reducible (first|refine Lm ?_|refine Wm (by omega) ?_|refine dF (by omega) (fun h => ?_)|refine dT (by omega) (fun h => ?_)|refine Bf.D (fun h => ?_) (fun h => ?_)|refine Bn ?_|refine Fm rfl ?_)|refine Bt ?_|refine Bu ?_|refine Cl.sz (szIntS_ok x.Cells _ (by omega) (by omega) wCells) (fun h => ?_) (fun h => ?_))
 all_goals exact congrArg (fun z => [I z]) (by unfold szR DPlan.sz; split <;> omega)
theorem szJob_ok (x : DJob) (left : Int) (h0 : 0 ≤ left) (h1 : left ≤ 1048576) (hw : DJob.wf x) : CallsA Tryz.prog 25 false [.val (some 5) (DJob.enc .imm x), .val none [I left]] .one [I (szR (DJob.sz x) left)] := by
 obtain ⟨wPlan, wPhase, wNext⟩ := hw
 refine fO (n := 12) [] Tryz.func25 (by kernel_rfl) rfl (by kernel_rfl) (by rfl) (.inr ⟨trivial, trivial⟩) ?_
 repeat' ((conv=>whnf);first|with_reducible (first|refine Lm ?_|refine Wm (by omega) ?_|refine dF (by omega) (fun h => ?_)|refine dT (by omega) (fun h => ?_)|refine Bf.D (fun h => ?_) (fun h => ?_)|refine Bn ?_|refine Fm rfl ?_)|refine Bt ?_|refine Bu ?_|refine Cl.sz (szPlan_ok x.Plan _ (by omega) (by omega) wPlan) (fun h => ?_) (fun h => ?_))
 all_goals exact congrArg (fun z => [I z]) (by unfold szR DJob.sz; split <;> omega)
theorem szHeap_ok (x : DHeap) (left : Int) (h0 : 0 ≤ left) (h1 : left ≤ 1048576) (hw : DHeap.wf x) : CallsA Tryz.prog 6 false [.val (some 24) (DHeap.enc .imm x), .val none [I left]] .one [I (szR (DHeap.sz x) left)] := by
 obtain ⟨wKernel, wFree, wSpans, wLarges, wObjs, wCaches, wMail, wQuar, wSeed, wClock, wLimit, wNext, wMeshing, wJob⟩ := hw
 refine fO (n := 60) [] Tryz.func6 (by kernel_rfl) rfl (by kernel_rfl) (by rfl) (.inr ⟨trivial, trivial⟩) ?_
 repeat' ((conv=>whnf);first|with_reducible (first|refine Lm ?_|refine Wm (by omega) ?_|refine dF (by omega) (fun h => ?_)|refine dT (by omega) (fun h => ?_)|refine Bf.D (fun h => ?_) (fun h => ?_)|refine Bn ?_|refine Fm rfl ?_)|refine Bt ?_|refine Bu ?_|refine Cl.sz (szKernel_ok x.Kernel _ (by omega) (by omega) wKernel) (fun h => ?_) (fun h => ?_)|refine Cl.sz (szRangeS_ok x.Free _ (by omega) (by omega) wFree) (fun h => ?_) (fun h => ?_)|refine Cl.sz (szSpanS_ok x.Spans _ (by omega) (by omega) wSpans) (fun h => ?_) (fun h => ?_)|refine Cl.sz (szLargeS_ok x.Larges _ (by omega) (by omega) wLarges) (fun h => ?_) (fun h => ?_)|refine Cl.sz (szObjS_ok x.Objs _ (by omega) (by omega) wObjs) (fun h => ?_) (fun h => ?_)|refine Cl.sz (szCacheS_ok x.Caches _ (by omega) (by omega) wCaches) (fun h => ?_) (fun h => ?_)|refine Cl.sz (szMail_ok x.Mail _ (by omega) (by omega) wMail) (fun h => ?_) (fun h => ?_)|refine Cl.sz (szQuar_ok x.Quar _ (by omega) (by omega) wQuar) (fun h => ?_) (fun h => ?_)|refine Cl.sz (szJob_ok x.Job _ (by omega) (by omega) wJob) (fun h => ?_) (fun h => ?_))
 all_goals exact congrArg (fun z => [I z]) (by unfold szR DHeap.sz; split <;> omega)
end Go.Proofs.YtogajjgmcnjkbaaGreat.Ab
/- Contracts of the laws' generic functions (eq). Printed by gen_con.py. No condition. -/
namespace Go.Proofs.YtogajjgmcnjkbaaGreat.Ab
open Go.RowKit
set_option maxRecDepth 20000
set_option maxHeartbeats 2000000

theorem eqIntS_ok (a b : List Int) (hs : smlIntS a) : CallsA Tryz.prog 143 false [.val none (rIntS .imm a), .val none (rIntS .imm b)] .one [B (decide (a = b))] := by
 refine fO (n := 26) [(6, 9, [17, 18, 19, 20, 21, 22, 23, 24, 25])] Tryz.func143 (by kernel_rfl) rfl (by kernel_rfl) (by rfl) (.inr ⟨trivial, trivial⟩) ?_
 have hl : a.length ≤ 1048576 := hs
 repeat' ((conv=>whnf);first|with_reducible (first|refine Lm ?_|refine Wm (by omega) ?_|refine Bf.N (fun h => ?_) (fun h => ?_)|refine Bn ?_|refine Fm rfl ?_)|refine Bt ?_|refine Bu ?_)
 ·refine congrArg (fun z => [B z]) (decide_eq_false fun e => ?_).symm
  subst e
  omega
 have hlab : a.length = b.length := by omega
 (conv=>whnf)
 refine Lp.mk (ι := Nat) (fun i => [(0, .hold .one (rIntS .imm a)), (1, .hold .one (rIntS .imm b)), (5, .hold .one [I (i : Nat)])]) (fun i => i ≤ a.length ∧ ∀ j, j < i → a[j]? = b[j]?) (fun i => a.length - i) 0 ?_ ⟨Nat.zero_le _, fun j hj => by omega⟩ fun i hi => ?_
 ·repeat' (first|exact trivial|rfl|refine And.intro ?_ ?_)
 ·obtain ⟨hi, hall⟩ := hi
  by_cases hlt : i < a.length
  ·obtain ⟨x, hx⟩ : ∃ x, a[i]? = some x := ⟨_, List.getElem?_eq_getElem hlt⟩
   obtain ⟨y, hy⟩ : ∃ y, b[i]? = some y := ⟨_, List.getElem?_eq_getElem (by omega)⟩
   repeat' ((conv=>whnf);first|with_reducible (first|refine Lm ?_|refine Wm (by omega) ?_|refine Ix.nat (get_map hx) ?_|refine Ix.nat (get_map hy) ?_|refine dT (by omega) (fun h => ?_)|refine Bf.N (fun h => ?_) (fun h => ?_)|refine Bf.NB (fun h => ?_) (fun h => ?_)|refine Bf.D (fun h => ?_) (fun h => ?_)|refine Bn ?_|refine Fm rfl ?_)|refine Bt ?_|refine Bu ?_)
   all_goals first
    |(show [B false] = [B (decide (a = b))]
      refine congrArg (fun z => [B z]) (decide_eq_false fun e => ?_).symm
      subst e
      simp_all)
    | ((conv=>whnf)
       refine Nx.mk (i + 1) ⟨by omega, fun j hj => ?_⟩ (by omega) ?_
       · rcases Nat.lt_or_ge j i with h1 | h1
         · exact hall j h1
         · obtain rfl : j = i := by omega
           rw [hx, hy]
           simp_all
       · repeat' (first|exact trivial|rfl|refine And.intro ?_ ?_))
  ·repeat' ((conv=>whnf);first|with_reducible (first|refine Lm ?_|refine Wm (by omega) ?_|refine dF (by omega) (fun h => ?_)|refine Bn ?_|refine Fm rfl ?_)|refine Bt ?_|refine Bu ?_)
   refine congrArg (fun z => [B z]) (decide_eq_true ?_).symm
   refine List.ext_getElem? fun j => ?_
   rcases Nat.lt_or_ge j i with h1 | h1
   ·exact hall j h1
   ·rw [List.getElem?_eq_none (by omega), List.getElem?_eq_none (by omega)]
theorem eqIntSS_ok (a b : List (List Int)) (hs : smlIntSS a) : CallsA Tryz.prog 150 false [.val none (rIntSS .imm a), .val none (rIntSS .imm b)] .one [B (decide (a = b))] := by
 refine fO (n := 27) [(6, 10, [17, 18, 19, 20, 21, 22, 23, 24, 25, 26])] Tryz.func150 (by kernel_rfl) rfl (by kernel_rfl) (by rfl) (.inr ⟨trivial, trivial⟩) ?_
 have hl : a.length ≤ 1048576 := hs.1
 repeat' ((conv=>whnf);first|with_reducible (first|refine Lm ?_|refine Wm (by omega) ?_|refine Bf.N (fun h => ?_) (fun h => ?_)|refine Bn ?_|refine Fm rfl ?_)|refine Bt ?_|refine Bu ?_)
 ·refine congrArg (fun z => [B z]) (decide_eq_false fun e => ?_).symm
  subst e
  omega
 have hlab : a.length = b.length := by omega
 (conv=>whnf)
 refine Lp.mk (ι := Nat) (fun i => [(0, .hold .one (rIntSS .imm a)), (1, .hold .one (rIntSS .imm b)), (5, .hold .one [I (i : Nat)])]) (fun i => i ≤ a.length ∧ ∀ j, j < i → a[j]? = b[j]?) (fun i => a.length - i) 0 ?_ ⟨Nat.zero_le _, fun j hj => by omega⟩ fun i hi => ?_
 ·repeat' (first|exact trivial|rfl|refine And.intro ?_ ?_)
 ·obtain ⟨hi, hall⟩ := hi
  by_cases hlt : i < a.length
  ·obtain ⟨x, hx⟩ : ∃ x, a[i]? = some x := ⟨_, List.getElem?_eq_getElem hlt⟩
   obtain ⟨y, hy⟩ : ∃ y, b[i]? = some y := ⟨_, List.getElem?_eq_getElem (by omega)⟩
   repeat' ((conv=>whnf);first|with_reducible (first|refine Lm ?_|refine Wm (by omega) ?_|refine Ix.nat (get_map hx) ?_|refine Ix.nat (get_map hy) ?_|refine dT (by omega) (fun h => ?_)|refine Bf.N (fun h => ?_) (fun h => ?_)|refine Bf.NB (fun h => ?_) (fun h => ?_)|refine Bf.D (fun h => ?_) (fun h => ?_)|refine Bn ?_|refine Fm rfl ?_)|refine Bt ?_|refine Bu ?_|refine Cl.mk (eqIntS_ok x y (hs.2 x (List.mem_of_getElem? hx))) ?_)
   all_goals first
    |(show [B false] = [B (decide (a = b))]
      refine congrArg (fun z => [B z]) (decide_eq_false fun e => ?_).symm
      subst e
      simp_all)
    | ((conv=>whnf)
       refine Nx.mk (i + 1) ⟨by omega, fun j hj => ?_⟩ (by omega) ?_
       · rcases Nat.lt_or_ge j i with h1 | h1
         · exact hall j h1
         · obtain rfl : j = i := by omega
           rw [hx, hy]
           simp_all
       · repeat' (first|exact trivial|rfl|refine And.intro ?_ ?_))
  ·repeat' ((conv=>whnf);first|with_reducible (first|refine Lm ?_|refine Wm (by omega) ?_|refine dF (by omega) (fun h => ?_)|refine Bn ?_|refine Fm rfl ?_)|refine Bt ?_|refine Bu ?_)
   refine congrArg (fun z => [B z]) (decide_eq_true ?_).symm
   refine List.ext_getElem? fun j => ?_
   rcases Nat.lt_or_ge j i with h1 | h1
   ·exact hall j h1
   ·rw [List.getElem?_eq_none (by omega), List.getElem?_eq_none (by omega)]
theorem eqBoolS_ok (a b : List Bool) (hs : smlBoolS a) : CallsA Tryz.prog 323 false [.val none (rBoolS .imm a), .val none (rBoolS .imm b)] .one [B (decide (a = b))] := by
 refine fO (n := 26) [(6, 9, [17, 18, 19, 20, 21, 22, 23, 24, 25])] Tryz.func323 (by kernel_rfl) rfl (by kernel_rfl) (by rfl) (.inr ⟨trivial, trivial⟩) ?_
 have hl : a.length ≤ 1048576 := hs
 repeat' ((conv=>whnf);first|with_reducible (first|refine Lm ?_|refine Wm (by omega) ?_|refine Bf.N (fun h => ?_) (fun h => ?_)|refine Bn ?_|refine Fm rfl ?_)|refine Bt ?_|refine Bu ?_)
 ·refine congrArg (fun z => [B z]) (decide_eq_false fun e => ?_).symm
  subst e
  omega
 have hlab : a.length = b.length := by omega
 (conv=>whnf)
 refine Lp.mk (ι := Nat) (fun i => [(0, .hold .one (rBoolS .imm a)), (1, .hold .one (rBoolS .imm b)), (5, .hold .one [I (i : Nat)])]) (fun i => i ≤ a.length ∧ ∀ j, j < i → a[j]? = b[j]?) (fun i => a.length - i) 0 ?_ ⟨Nat.zero_le _, fun j hj => by omega⟩ fun i hi => ?_
 ·repeat' (first|exact trivial|rfl|refine And.intro ?_ ?_)
 ·obtain ⟨hi, hall⟩ := hi
  by_cases hlt : i < a.length
  ·obtain ⟨x, hx⟩ : ∃ x, a[i]? = some x := ⟨_, List.getElem?_eq_getElem hlt⟩
   obtain ⟨y, hy⟩ : ∃ y, b[i]? = some y := ⟨_, List.getElem?_eq_getElem (by omega)⟩
   repeat' ((conv=>whnf);first|with_reducible (first|refine Lm ?_|refine Wm (by omega) ?_|refine Ix.nat (get_map hx) ?_|refine Ix.nat (get_map hy) ?_|refine dT (by omega) (fun h => ?_)|refine Bf.N (fun h => ?_) (fun h => ?_)|refine Bf.NB (fun h => ?_) (fun h => ?_)|refine Bf.D (fun h => ?_) (fun h => ?_)|refine Bn ?_|refine Fm rfl ?_)|refine Bt ?_|refine Bu ?_)
   all_goals first
    |(show [B false] = [B (decide (a = b))]
      refine congrArg (fun z => [B z]) (decide_eq_false fun e => ?_).symm
      subst e
      simp_all)
    | ((conv=>whnf)
       refine Nx.mk (i + 1) ⟨by omega, fun j hj => ?_⟩ (by omega) ?_
       · rcases Nat.lt_or_ge j i with h1 | h1
         · exact hall j h1
         · obtain rfl : j = i := by omega
           rw [hx, hy]
           simp_all
       · repeat' (first|exact trivial|rfl|refine And.intro ?_ ?_))
  ·repeat' ((conv=>whnf);first|with_reducible (first|refine Lm ?_|refine Wm (by omega) ?_|refine dF (by omega) (fun h => ?_)|refine Bn ?_|refine Fm rfl ?_)|refine Bt ?_|refine Bu ?_)
   refine congrArg (fun z => [B z]) (decide_eq_true ?_).symm
   refine List.ext_getElem? fun j => ?_
   rcases Nat.lt_or_ge j i with h1 | h1
   ·exact hall j h1
   ·rw [List.getElem?_eq_none (by omega), List.getElem?_eq_none (by omega)]
theorem eqFrames_ok (a b : DFrames) (hs : DFrames.sml a) : CallsA Tryz.prog 251 false [.val (some 2) (DFrames.enc .imm a), .val (some 2) (DFrames.enc .imm b)] .one [B (decide (a = b))] := by
 obtain ⟨h0, h1⟩ := hs
 refine fO (n := 17) [] Tryz.func251 (by kernel_rfl) rfl (by kernel_rfl) (by rfl) (.inr ⟨trivial, trivial⟩) ?_
 repeat' ((conv=>whnf);first|with_reducible (first|refine Lm ?_|refine Wm (by omega) ?_|refine Bf.N (fun h => ?_) (fun h => ?_)|refine Bf.NB (fun h => ?_) (fun h => ?_)|refine Bf.D (fun h => ?_) (fun h => ?_)|refine Bn ?_|refine Fm rfl ?_)|refine Bt ?_|refine Bu ?_|refine Cl.mk (eqIntSS_ok a.Cells b.Cells h0) ?_|refine Cl.mk (eqBoolS_ok a.Used b.Used h1) ?_)
 all_goals first | (show [B false] = [B (decide (a = b))]; refine congrArg (fun z => [B z]) (decide_eq_false fun e => ?_).symm; subst e; contradiction) | (show [B true] = [B (decide (a = b))]; refine congrArg (fun z => [B z]) (decide_eq_true ?_).symm; cases a; cases b; simp_all)
theorem eqEntry_ok (a b : DEntry) (hs : DEntry.sml a) : CallsA Tryz.prog 355 false [.val (some 2) (DEntry.enc .imm a), .val (some 2) (DEntry.enc .imm b)] .one [B (decide (a = b))] := by
 refine fO (n := 15) [] Tryz.func355 (by kernel_rfl) rfl (by kernel_rfl) (by rfl) (.inr ⟨trivial, trivial⟩) ?_
 repeat' ((conv=>whnf);first|with_reducible (first|refine Lm ?_|refine Wm (by omega) ?_|refine Bf.N (fun h => ?_) (fun h => ?_)|refine Bf.NB (fun h => ?_) (fun h => ?_)|refine Bf.D (fun h => ?_) (fun h => ?_)|refine Bn ?_|refine Fm rfl ?_)|refine Bt ?_|refine Bu ?_)
 all_goals first | (show [B false] = [B (decide (a = b))]; refine congrArg (fun z => [B z]) (decide_eq_false fun e => ?_).symm; subst e; contradiction) | (show [B true] = [B (decide (a = b))]; refine congrArg (fun z => [B z]) (decide_eq_true ?_).symm; cases a; cases b; simp_all)
theorem eqEntryS_ok (a b : List DEntry) (hs : smlDEntryS a) : CallsA Tryz.prog 324 false [.val none (rDEntryS .imm a), .val none (rDEntryS .imm b)] .one [B (decide (a = b))] := by
 refine fO (n := 27) [(6, 10, [17, 18, 19, 20, 21, 22, 23, 24, 25, 26])] Tryz.func324 (by kernel_rfl) rfl (by kernel_rfl) (by rfl) (.inr ⟨trivial, trivial⟩) ?_
 have hl : a.length ≤ 1048576 := hs.1
 repeat' ((conv=>whnf);first|with_reducible (first|refine Lm ?_|refine Wm (by omega) ?_|refine Bf.N (fun h => ?_) (fun h => ?_)|refine Bn ?_|refine Fm rfl ?_)|refine Bt ?_|refine Bu ?_)
 ·refine congrArg (fun z => [B z]) (decide_eq_false fun e => ?_).symm
  subst e
  omega
 have hlab : a.length = b.length := by omega
 (conv=>whnf)
 refine Lp.mk (ι := Nat) (fun i => [(0, .hold .one (rDEntryS .imm a)), (1, .hold .one (rDEntryS .imm b)), (5, .hold .one [I (i : Nat)])]) (fun i => i ≤ a.length ∧ ∀ j, j < i → a[j]? = b[j]?) (fun i => a.length - i) 0 ?_ ⟨Nat.zero_le _, fun j hj => by omega⟩ fun i hi => ?_
 ·repeat' (first|exact trivial|rfl|refine And.intro ?_ ?_)
 ·obtain ⟨hi, hall⟩ := hi
  by_cases hlt : i < a.length
  ·obtain ⟨x, hx⟩ : ∃ x, a[i]? = some x := ⟨_, List.getElem?_eq_getElem hlt⟩
   obtain ⟨y, hy⟩ : ∃ y, b[i]? = some y := ⟨_, List.getElem?_eq_getElem (by omega)⟩
   repeat' ((conv=>whnf);first|with_reducible (first|refine Lm ?_|refine Wm (by omega) ?_|refine Ix.nat (get_map hx) ?_|refine Ix.nat (get_map hy) ?_|refine dT (by omega) (fun h => ?_)|refine Bf.N (fun h => ?_) (fun h => ?_)|refine Bf.NB (fun h => ?_) (fun h => ?_)|refine Bf.D (fun h => ?_) (fun h => ?_)|refine Bn ?_|refine Fm rfl ?_)|refine Bt ?_|refine Bu ?_|refine Cl.mk (eqEntry_ok x y trivial) ?_)
   all_goals first
    |(show [B false] = [B (decide (a = b))]
      refine congrArg (fun z => [B z]) (decide_eq_false fun e => ?_).symm
      subst e
      simp_all)
    | ((conv=>whnf)
       refine Nx.mk (i + 1) ⟨by omega, fun j hj => ?_⟩ (by omega) ?_
       · rcases Nat.lt_or_ge j i with h1 | h1
         · exact hall j h1
         · obtain rfl : j = i := by omega
           rw [hx, hy]
           simp_all
       · repeat' (first|exact trivial|rfl|refine And.intro ?_ ?_))
  ·repeat' ((conv=>whnf);first|with_reducible (first|refine Lm ?_|refine Wm (by omega) ?_|refine dF (by omega) (fun h => ?_)|refine Bn ?_|refine Fm rfl ?_)|refine Bt ?_|refine Bu ?_)
   refine congrArg (fun z => [B z]) (decide_eq_true ?_).symm
   refine List.ext_getElem? fun j => ?_
   rcases Nat.lt_or_ge j i with h1 | h1
   ·exact hall j h1
   ·rw [List.getElem?_eq_none (by omega), List.getElem?_eq_none (by omega)]
theorem eqTable_ok (a b : DTable) (hs : DTable.sml a) : CallsA Tryz.prog 252 false [.val (some 1) (DTable.enc .imm a), .val (some 1) (DTable.enc .imm b)] .one [B (decide (a = b))] := by
 have h0 := hs
 refine fO (n := 11) [] Tryz.func252 (by kernel_rfl) rfl (by kernel_rfl) (by rfl) (.inr ⟨trivial, trivial⟩) ?_
 repeat' ((conv=>whnf);first|with_reducible (first|refine Lm ?_|refine Wm (by omega) ?_|refine Bf.N (fun h => ?_) (fun h => ?_)|refine Bf.NB (fun h => ?_) (fun h => ?_)|refine Bf.D (fun h => ?_) (fun h => ?_)|refine Bn ?_|refine Fm rfl ?_)|refine Bt ?_|refine Bu ?_|refine Cl.mk (eqEntryS_ok a.Entries b.Entries h0) ?_)
 all_goals first | (show [B false] = [B (decide (a = b))]; refine congrArg (fun z => [B z]) (decide_eq_false fun e => ?_).symm; subst e; contradiction) | (show [B true] = [B (decide (a = b))]; refine congrArg (fun z => [B z]) (decide_eq_true ?_).symm; cases a; cases b; simp_all)
theorem eqMachine_ok (a b : DMachine) (hs : DMachine.sml a) : CallsA Tryz.prog 142 false [.val (some 3) (DMachine.enc .imm a), .val (some 3) (DMachine.enc .imm b)] .one [B (decide (a = b))] := by
 obtain ⟨h0, h1⟩ := hs
 refine fO (n := 17) [] Tryz.func142 (by kernel_rfl) rfl (by kernel_rfl) (by rfl) (.inr ⟨trivial, trivial⟩) ?_
 repeat' ((conv=>whnf);first|with_reducible (first|refine Lm ?_|refine Wm (by omega) ?_|refine Bf.N (fun h => ?_) (fun h => ?_)|refine Bf.NB (fun h => ?_) (fun h => ?_)|refine Bf.D (fun h => ?_) (fun h => ?_)|refine Bn ?_|refine Fm rfl ?_)|refine Bt ?_|refine Bu ?_|refine Cl.mk (eqFrames_ok a.Frames b.Frames h0) ?_|refine Cl.mk (eqTable_ok a.Table b.Table h1) ?_)
 all_goals first | (show [B false] = [B (decide (a = b))]; refine congrArg (fun z => [B z]) (decide_eq_false fun e => ?_).symm; subst e; contradiction) | (show [B true] = [B (decide (a = b))]; refine congrArg (fun z => [B z]) (decide_eq_true ?_).symm; cases a; cases b; simp_all)
theorem eqKernel_ok (a b : DKernel) (hs : DKernel.sml a) : CallsA Tryz.prog 47 false [.val (some 5) (DKernel.enc .imm a), .val (some 5) (DKernel.enc .imm b)] .one [B (decide (a = b))] := by
 obtain ⟨h0, h1⟩ := hs
 refine fO (n := 22) [] Tryz.func47 (by kernel_rfl) rfl (by kernel_rfl) (by rfl) (.inr ⟨trivial, trivial⟩) ?_
 repeat' ((conv=>whnf);first|with_reducible (first|refine Lm ?_|refine Wm (by omega) ?_|refine Bf.N (fun h => ?_) (fun h => ?_)|refine Bf.NB (fun h => ?_) (fun h => ?_)|refine Bf.D (fun h => ?_) (fun h => ?_)|refine Bn ?_|refine Fm rfl ?_)|refine Bt ?_|refine Bu ?_|refine Cl.mk (eqMachine_ok a.Machine b.Machine h0) ?_|refine Cl.mk (eqIntS_ok a.Refuse b.Refuse h1) ?_)
 all_goals first | (show [B false] = [B (decide (a = b))]; refine congrArg (fun z => [B z]) (decide_eq_false fun e => ?_).symm; subst e; contradiction) | (show [B true] = [B (decide (a = b))]; refine congrArg (fun z => [B z]) (decide_eq_true ?_).symm; cases a; cases b; simp_all)
theorem eqRange_ok (a b : DRange) (hs : DRange.sml a) : CallsA Tryz.prog 144 false [.val (some 2) (DRange.enc .imm a), .val (some 2) (DRange.enc .imm b)] .one [B (decide (a = b))] := by
 refine fO (n := 15) [] Tryz.func144 (by kernel_rfl) rfl (by kernel_rfl) (by rfl) (.inr ⟨trivial, trivial⟩) ?_
 repeat' ((conv=>whnf);first|with_reducible (first|refine Lm ?_|refine Wm (by omega) ?_|refine Bf.N (fun h => ?_) (fun h => ?_)|refine Bf.NB (fun h => ?_) (fun h => ?_)|refine Bf.D (fun h => ?_) (fun h => ?_)|refine Bn ?_|refine Fm rfl ?_)|refine Bt ?_|refine Bu ?_)
 all_goals first | (show [B false] = [B (decide (a = b))]; refine congrArg (fun z => [B z]) (decide_eq_false fun e => ?_).symm; subst e; contradiction) | (show [B true] = [B (decide (a = b))]; refine congrArg (fun z => [B z]) (decide_eq_true ?_).symm; cases a; cases b; simp_all)
theorem eqRangeS_ok (a b : List DRange) (hs : smlDRangeS a) : CallsA Tryz.prog 48 false [.val none (rDRangeS .imm a), .val none (rDRangeS .imm b)] .one [B (decide (a = b))] := by
 refine fO (n := 27) [(6, 10, [17, 18, 19, 20, 21, 22, 23, 24, 25, 26])] Tryz.func48 (by kernel_rfl) rfl (by kernel_rfl) (by rfl) (.inr ⟨trivial, trivial⟩) ?_
 have hl : a.length ≤ 1048576 := hs.1
 repeat' ((conv=>whnf);first|with_reducible (first|refine Lm ?_|refine Wm (by omega) ?_|refine Bf.N (fun h => ?_) (fun h => ?_)|refine Bn ?_|refine Fm rfl ?_)|refine Bt ?_|refine Bu ?_)
 ·refine congrArg (fun z => [B z]) (decide_eq_false fun e => ?_).symm
  subst e
  omega
 have hlab : a.length = b.length := by omega
 (conv=>whnf)
 refine Lp.mk (ι := Nat) (fun i => [(0, .hold .one (rDRangeS .imm a)), (1, .hold .one (rDRangeS .imm b)), (5, .hold .one [I (i : Nat)])]) (fun i => i ≤ a.length ∧ ∀ j, j < i → a[j]? = b[j]?) (fun i => a.length - i) 0 ?_ ⟨Nat.zero_le _, fun j hj => by omega⟩ fun i hi => ?_
 ·repeat' (first|exact trivial|rfl|refine And.intro ?_ ?_)
 ·obtain ⟨hi, hall⟩ := hi
  by_cases hlt : i < a.length
  ·obtain ⟨x, hx⟩ : ∃ x, a[i]? = some x := ⟨_, List.getElem?_eq_getElem hlt⟩
   obtain ⟨y, hy⟩ : ∃ y, b[i]? = some y := ⟨_, List.getElem?_eq_getElem (by omega)⟩
   repeat' ((conv=>whnf);first|with_reducible (first|refine Lm ?_|refine Wm (by omega) ?_|refine Ix.nat (get_map hx) ?_|refine Ix.nat (get_map hy) ?_|refine dT (by omega) (fun h => ?_)|refine Bf.N (fun h => ?_) (fun h => ?_)|refine Bf.NB (fun h => ?_) (fun h => ?_)|refine Bf.D (fun h => ?_) (fun h => ?_)|refine Bn ?_|refine Fm rfl ?_)|refine Bt ?_|refine Bu ?_|refine Cl.mk (eqRange_ok x y trivial) ?_)
   all_goals first
    |(show [B false] = [B (decide (a = b))]
      refine congrArg (fun z => [B z]) (decide_eq_false fun e => ?_).symm
      subst e
      simp_all)
    | ((conv=>whnf)
       refine Nx.mk (i + 1) ⟨by omega, fun j hj => ?_⟩ (by omega) ?_
       · rcases Nat.lt_or_ge j i with h1 | h1
         · exact hall j h1
         · obtain rfl : j = i := by omega
           rw [hx, hy]
           simp_all
       · repeat' (first|exact trivial|rfl|refine And.intro ?_ ?_))
  ·repeat' ((conv=>whnf);first|with_reducible (first|refine Lm ?_|refine Wm (by omega) ?_|refine dF (by omega) (fun h => ?_)|refine Bn ?_|refine Fm rfl ?_)|refine Bt ?_|refine Bu ?_)
   refine congrArg (fun z => [B z]) (decide_eq_true ?_).symm
   refine List.ext_getElem? fun j => ?_
   rcases Nat.lt_or_ge j i with h1 | h1
   ·exact hall j h1
   ·rw [List.getElem?_eq_none (by omega), List.getElem?_eq_none (by omega)]
theorem eqSpan_ok (a b : DSpan) (hs : DSpan.sml a) : CallsA Tryz.prog 145 false [.val (some 3) (DSpan.enc .imm a), .val (some 3) (DSpan.enc .imm b)] .one [B (decide (a = b))] := by
 refine fO (n := 20) [] Tryz.func145 (by kernel_rfl) rfl (by kernel_rfl) (by rfl) (.inr ⟨trivial, trivial⟩) ?_
 repeat' ((conv=>whnf);first|with_reducible (first|refine Lm ?_|refine Wm (by omega) ?_|refine Bf.N (fun h => ?_) (fun h => ?_)|refine Bf.NB (fun h => ?_) (fun h => ?_)|refine Bf.D (fun h => ?_) (fun h => ?_)|refine Bn ?_|refine Fm rfl ?_)|refine Bt ?_|refine Bu ?_)
 all_goals first | (show [B false] = [B (decide (a = b))]; refine congrArg (fun z => [B z]) (decide_eq_false fun e => ?_).symm; subst e; contradiction) | (show [B true] = [B (decide (a = b))]; refine congrArg (fun z => [B z]) (decide_eq_true ?_).symm; cases a; cases b; simp_all)
theorem eqSpanS_ok (a b : List DSpan) (hs : smlDSpanS a) : CallsA Tryz.prog 49 false [.val none (rDSpanS .imm a), .val none (rDSpanS .imm b)] .one [B (decide (a = b))] := by
 refine fO (n := 27) [(6, 10, [17, 18, 19, 20, 21, 22, 23, 24, 25, 26])] Tryz.func49 (by kernel_rfl) rfl (by kernel_rfl) (by rfl) (.inr ⟨trivial, trivial⟩) ?_
 have hl : a.length ≤ 1048576 := hs.1
 repeat' ((conv=>whnf);first|with_reducible (first|refine Lm ?_|refine Wm (by omega) ?_|refine Bf.N (fun h => ?_) (fun h => ?_)|refine Bn ?_|refine Fm rfl ?_)|refine Bt ?_|refine Bu ?_)
 ·refine congrArg (fun z => [B z]) (decide_eq_false fun e => ?_).symm
  subst e
  omega
 have hlab : a.length = b.length := by omega
 (conv=>whnf)
 refine Lp.mk (ι := Nat) (fun i => [(0, .hold .one (rDSpanS .imm a)), (1, .hold .one (rDSpanS .imm b)), (5, .hold .one [I (i : Nat)])]) (fun i => i ≤ a.length ∧ ∀ j, j < i → a[j]? = b[j]?) (fun i => a.length - i) 0 ?_ ⟨Nat.zero_le _, fun j hj => by omega⟩ fun i hi => ?_
 ·repeat' (first|exact trivial|rfl|refine And.intro ?_ ?_)
 ·obtain ⟨hi, hall⟩ := hi
  by_cases hlt : i < a.length
  ·obtain ⟨x, hx⟩ : ∃ x, a[i]? = some x := ⟨_, List.getElem?_eq_getElem hlt⟩
   obtain ⟨y, hy⟩ : ∃ y, b[i]? = some y := ⟨_, List.getElem?_eq_getElem (by omega)⟩
   repeat' ((conv=>whnf);first|with_reducible (first|refine Lm ?_|refine Wm (by omega) ?_|refine Ix.nat (get_map hx) ?_|refine Ix.nat (get_map hy) ?_|refine dT (by omega) (fun h => ?_)|refine Bf.N (fun h => ?_) (fun h => ?_)|refine Bf.NB (fun h => ?_) (fun h => ?_)|refine Bf.D (fun h => ?_) (fun h => ?_)|refine Bn ?_|refine Fm rfl ?_)|refine Bt ?_|refine Bu ?_|refine Cl.mk (eqSpan_ok x y trivial) ?_)
   all_goals first
    |(show [B false] = [B (decide (a = b))]
      refine congrArg (fun z => [B z]) (decide_eq_false fun e => ?_).symm
      subst e
      simp_all)
    | ((conv=>whnf)
       refine Nx.mk (i + 1) ⟨by omega, fun j hj => ?_⟩ (by omega) ?_
       · rcases Nat.lt_or_ge j i with h1 | h1
         · exact hall j h1
         · obtain rfl : j = i := by omega
           rw [hx, hy]
           simp_all
       · repeat' (first|exact trivial|rfl|refine And.intro ?_ ?_))
  ·repeat' ((conv=>whnf);first|with_reducible (first|refine Lm ?_|refine Wm (by omega) ?_|refine dF (by omega) (fun h => ?_)|refine Bn ?_|refine Fm rfl ?_)|refine Bt ?_|refine Bu ?_)
   refine congrArg (fun z => [B z]) (decide_eq_true ?_).symm
   refine List.ext_getElem? fun j => ?_
   rcases Nat.lt_or_ge j i with h1 | h1
   ·exact hall j h1
   ·rw [List.getElem?_eq_none (by omega), List.getElem?_eq_none (by omega)]
theorem eqLarge_ok (a b : DLarge) (hs : DLarge.sml a) : CallsA Tryz.prog 146 false [.val (some 3) (DLarge.enc .imm a), .val (some 3) (DLarge.enc .imm b)] .one [B (decide (a = b))] := by
 refine fO (n := 20) [] Tryz.func146 (by kernel_rfl) rfl (by kernel_rfl) (by rfl) (.inr ⟨trivial, trivial⟩) ?_
 repeat' ((conv=>whnf);first|with_reducible (first|refine Lm ?_|refine Wm (by omega) ?_|refine Bf.N (fun h => ?_) (fun h => ?_)|refine Bf.NB (fun h => ?_) (fun h => ?_)|refine Bf.D (fun h => ?_) (fun h => ?_)|refine Bn ?_|refine Fm rfl ?_)|refine Bt ?_|refine Bu ?_)
 all_goals first | (show [B false] = [B (decide (a = b))]; refine congrArg (fun z => [B z]) (decide_eq_false fun e => ?_).symm; subst e; contradiction) | (show [B true] = [B (decide (a = b))]; refine congrArg (fun z => [B z]) (decide_eq_true ?_).symm; cases a; cases b; simp_all)
theorem eqLargeS_ok (a b : List DLarge) (hs : smlDLargeS a) : CallsA Tryz.prog 50 false [.val none (rDLargeS .imm a), .val none (rDLargeS .imm b)] .one [B (decide (a = b))] := by
 refine fO (n := 27) [(6, 10, [17, 18, 19, 20, 21, 22, 23, 24, 25, 26])] Tryz.func50 (by kernel_rfl) rfl (by kernel_rfl) (by rfl) (.inr ⟨trivial, trivial⟩) ?_
 have hl : a.length ≤ 1048576 := hs.1
 repeat' ((conv=>whnf);first|with_reducible (first|refine Lm ?_|refine Wm (by omega) ?_|refine Bf.N (fun h => ?_) (fun h => ?_)|refine Bn ?_|refine Fm rfl ?_)|refine Bt ?_|refine Bu ?_)
 ·refine congrArg (fun z => [B z]) (decide_eq_false fun e => ?_).symm
  subst e
  omega
 have hlab : a.length = b.length := by omega
 (conv=>whnf)
 refine Lp.mk (ι := Nat) (fun i => [(0, .hold .one (rDLargeS .imm a)), (1, .hold .one (rDLargeS .imm b)), (5, .hold .one [I (i : Nat)])]) (fun i => i ≤ a.length ∧ ∀ j, j < i → a[j]? = b[j]?) (fun i => a.length - i) 0 ?_ ⟨Nat.zero_le _, fun j hj => by omega⟩ fun i hi => ?_
 ·repeat' (first|exact trivial|rfl|refine And.intro ?_ ?_)
 ·obtain ⟨hi, hall⟩ := hi
  by_cases hlt : i < a.length
  ·obtain ⟨x, hx⟩ : ∃ x, a[i]? = some x := ⟨_, List.getElem?_eq_getElem hlt⟩
   obtain ⟨y, hy⟩ : ∃ y, b[i]? = some y := ⟨_, List.getElem?_eq_getElem (by omega)⟩
   repeat' ((conv=>whnf);first|with_reducible (first|refine Lm ?_|refine Wm (by omega) ?_|refine Ix.nat (get_map hx) ?_|refine Ix.nat (get_map hy) ?_|refine dT (by omega) (fun h => ?_)|refine Bf.N (fun h => ?_) (fun h => ?_)|refine Bf.NB (fun h => ?_) (fun h => ?_)|refine Bf.D (fun h => ?_) (fun h => ?_)|refine Bn ?_|refine Fm rfl ?_)|refine Bt ?_|refine Bu ?_|refine Cl.mk (eqLarge_ok x y trivial) ?_)
   all_goals first
    |(show [B false] = [B (decide (a = b))]
      refine congrArg (fun z => [B z]) (decide_eq_false fun e => ?_).symm
      subst e
      simp_all)
    | ((conv=>whnf)
       refine Nx.mk (i + 1) ⟨by omega, fun j hj => ?_⟩ (by omega) ?_
       · rcases Nat.lt_or_ge j i with h1 | h1
         · exact hall j h1
         · obtain rfl : j = i := by omega
           rw [hx, hy]
           simp_all
       · repeat' (first|exact trivial|rfl|refine And.intro ?_ ?_))
  ·repeat' ((conv=>whnf);first|with_reducible (first|refine Lm ?_|refine Wm (by omega) ?_|refine dF (by omega) (fun h => ?_)|refine Bn ?_|refine Fm rfl ?_)|refine Bt ?_|refine Bu ?_)
   refine congrArg (fun z => [B z]) (decide_eq_true ?_).symm
   refine List.ext_getElem? fun j => ?_
   rcases Nat.lt_or_ge j i with h1 | h1
   ·exact hall j h1
   ·rw [List.getElem?_eq_none (by omega), List.getElem?_eq_none (by omega)]
theorem eqObj_ok (a b : DObj) (hs : DObj.sml a) : CallsA Tryz.prog 147 false [.val (some 4) (DObj.enc .imm a), .val (some 4) (DObj.enc .imm b)] .one [B (decide (a = b))] := by
 refine fO (n := 25) [] Tryz.func147 (by kernel_rfl) rfl (by kernel_rfl) (by rfl) (.inr ⟨trivial, trivial⟩) ?_
 repeat' ((conv=>whnf);first|with_reducible (first|refine Lm ?_|refine Wm (by omega) ?_|refine Bf.N (fun h => ?_) (fun h => ?_)|refine Bf.NB (fun h => ?_) (fun h => ?_)|refine Bf.D (fun h => ?_) (fun h => ?_)|refine Bn ?_|refine Fm rfl ?_)|refine Bt ?_|refine Bu ?_)
 all_goals first | (show [B false] = [B (decide (a = b))]; refine congrArg (fun z => [B z]) (decide_eq_false fun e => ?_).symm; subst e; contradiction) | (show [B true] = [B (decide (a = b))]; refine congrArg (fun z => [B z]) (decide_eq_true ?_).symm; cases a; cases b; simp_all)
theorem eqObjS_ok (a b : List DObj) (hs : smlDObjS a) : CallsA Tryz.prog 51 false [.val none (rDObjS .imm a), .val none (rDObjS .imm b)] .one [B (decide (a = b))] := by
 refine fO (n := 27) [(6, 10, [17, 18, 19, 20, 21, 22, 23, 24, 25, 26])] Tryz.func51 (by kernel_rfl) rfl (by kernel_rfl) (by rfl) (.inr ⟨trivial, trivial⟩) ?_
 have hl : a.length ≤ 1048576 := hs.1
 repeat' ((conv=>whnf);first|with_reducible (first|refine Lm ?_|refine Wm (by omega) ?_|refine Bf.N (fun h => ?_) (fun h => ?_)|refine Bn ?_|refine Fm rfl ?_)|refine Bt ?_|refine Bu ?_)
 ·refine congrArg (fun z => [B z]) (decide_eq_false fun e => ?_).symm
  subst e
  omega
 have hlab : a.length = b.length := by omega
 (conv=>whnf)
 refine Lp.mk (ι := Nat) (fun i => [(0, .hold .one (rDObjS .imm a)), (1, .hold .one (rDObjS .imm b)), (5, .hold .one [I (i : Nat)])]) (fun i => i ≤ a.length ∧ ∀ j, j < i → a[j]? = b[j]?) (fun i => a.length - i) 0 ?_ ⟨Nat.zero_le _, fun j hj => by omega⟩ fun i hi => ?_
 ·repeat' (first|exact trivial|rfl|refine And.intro ?_ ?_)
 ·obtain ⟨hi, hall⟩ := hi
  by_cases hlt : i < a.length
  ·obtain ⟨x, hx⟩ : ∃ x, a[i]? = some x := ⟨_, List.getElem?_eq_getElem hlt⟩
   obtain ⟨y, hy⟩ : ∃ y, b[i]? = some y := ⟨_, List.getElem?_eq_getElem (by omega)⟩
   repeat' ((conv=>whnf);first|with_reducible (first|refine Lm ?_|refine Wm (by omega) ?_|refine Ix.nat (get_map hx) ?_|refine Ix.nat (get_map hy) ?_|refine dT (by omega) (fun h => ?_)|refine Bf.N (fun h => ?_) (fun h => ?_)|refine Bf.NB (fun h => ?_) (fun h => ?_)|refine Bf.D (fun h => ?_) (fun h => ?_)|refine Bn ?_|refine Fm rfl ?_)|refine Bt ?_|refine Bu ?_|refine Cl.mk (eqObj_ok x y trivial) ?_)
   all_goals first
    |(show [B false] = [B (decide (a = b))]
      refine congrArg (fun z => [B z]) (decide_eq_false fun e => ?_).symm
      subst e
      simp_all)
    | ((conv=>whnf)
       refine Nx.mk (i + 1) ⟨by omega, fun j hj => ?_⟩ (by omega) ?_
       · rcases Nat.lt_or_ge j i with h1 | h1
         · exact hall j h1
         · obtain rfl : j = i := by omega
           rw [hx, hy]
           simp_all
       · repeat' (first|exact trivial|rfl|refine And.intro ?_ ?_))
  ·repeat' ((conv=>whnf);first|with_reducible (first|refine Lm ?_|refine Wm (by omega) ?_|refine dF (by omega) (fun h => ?_)|refine Bn ?_|refine Fm rfl ?_)|refine Bt ?_|refine Bu ?_)
   refine congrArg (fun z => [B z]) (decide_eq_true ?_).symm
   refine List.ext_getElem? fun j => ?_
   rcases Nat.lt_or_ge j i with h1 | h1
   ·exact hall j h1
   ·rw [List.getElem?_eq_none (by omega), List.getElem?_eq_none (by omega)]
theorem eqCache_ok (a b : DCache) (hs : DCache.sml a) : CallsA Tryz.prog 148 false [.val (some 1) (DCache.enc .imm a), .val (some 1) (DCache.enc .imm b)] .one [B (decide (a = b))] := by
 have h0 := hs
 refine fO (n := 11) [] Tryz.func148 (by kernel_rfl) rfl (by kernel_rfl) (by rfl) (.inr ⟨trivial, trivial⟩) ?_
 repeat' ((conv=>whnf);first|with_reducible (first|refine Lm ?_|refine Wm (by omega) ?_|refine Bf.N (fun h => ?_) (fun h => ?_)|refine Bf.NB (fun h => ?_) (fun h => ?_)|refine Bf.D (fun h => ?_) (fun h => ?_)|refine Bn ?_|refine Fm rfl ?_)|refine Bt ?_|refine Bu ?_|refine Cl.mk (eqIntSS_ok a.Lists b.Lists h0) ?_)
 all_goals first | (show [B false] = [B (decide (a = b))]; refine congrArg (fun z => [B z]) (decide_eq_false fun e => ?_).symm; subst e; contradiction) | (show [B true] = [B (decide (a = b))]; refine congrArg (fun z => [B z]) (decide_eq_true ?_).symm; cases a; cases b; simp_all)
theorem eqCacheS_ok (a b : List DCache) (hs : smlDCacheS a) : CallsA Tryz.prog 52 false [.val none (rDCacheS .imm a), .val none (rDCacheS .imm b)] .one [B (decide (a = b))] := by
 refine fO (n := 27) [(6, 10, [17, 18, 19, 20, 21, 22, 23, 24, 25, 26])] Tryz.func52 (by kernel_rfl) rfl (by kernel_rfl) (by rfl) (.inr ⟨trivial, trivial⟩) ?_
 have hl : a.length ≤ 1048576 := hs.1
 repeat' ((conv=>whnf);first|with_reducible (first|refine Lm ?_|refine Wm (by omega) ?_|refine Bf.N (fun h => ?_) (fun h => ?_)|refine Bn ?_|refine Fm rfl ?_)|refine Bt ?_|refine Bu ?_)
 ·refine congrArg (fun z => [B z]) (decide_eq_false fun e => ?_).symm
  subst e
  omega
 have hlab : a.length = b.length := by omega
 (conv=>whnf)
 refine Lp.mk (ι := Nat) (fun i => [(0, .hold .one (rDCacheS .imm a)), (1, .hold .one (rDCacheS .imm b)), (5, .hold .one [I (i : Nat)])]) (fun i => i ≤ a.length ∧ ∀ j, j < i → a[j]? = b[j]?) (fun i => a.length - i) 0 ?_ ⟨Nat.zero_le _, fun j hj => by omega⟩ fun i hi => ?_
 ·repeat' (first|exact trivial|rfl|refine And.intro ?_ ?_)
 ·obtain ⟨hi, hall⟩ := hi
  by_cases hlt : i < a.length
  ·obtain ⟨x, hx⟩ : ∃ x, a[i]? = some x := ⟨_, List.getElem?_eq_getElem hlt⟩
   obtain ⟨y, hy⟩ : ∃ y, b[i]? = some y := ⟨_, List.getElem?_eq_getElem (by omega)⟩
   repeat' ((conv=>whnf);first|with_reducible (first|refine Lm ?_|refine Wm (by omega) ?_|refine Ix.nat (get_map hx) ?_|refine Ix.nat (get_map hy) ?_|refine dT (by omega) (fun h => ?_)|refine Bf.N (fun h => ?_) (fun h => ?_)|refine Bf.NB (fun h => ?_) (fun h => ?_)|refine Bf.D (fun h => ?_) (fun h => ?_)|refine Bn ?_|refine Fm rfl ?_)|refine Bt ?_|refine Bu ?_|refine Cl.mk (eqCache_ok x y (hs.2 x (List.mem_of_getElem? hx))) ?_)
   all_goals first
    |(show [B false] = [B (decide (a = b))]
      refine congrArg (fun z => [B z]) (decide_eq_false fun e => ?_).symm
      subst e
      simp_all)
    | ((conv=>whnf)
       refine Nx.mk (i + 1) ⟨by omega, fun j hj => ?_⟩ (by omega) ?_
       · rcases Nat.lt_or_ge j i with h1 | h1
         · exact hall j h1
         · obtain rfl : j = i := by omega
           rw [hx, hy]
           simp_all
       · repeat' (first|exact trivial|rfl|refine And.intro ?_ ?_))
  ·repeat' ((conv=>whnf);first|with_reducible (first|refine Lm ?_|refine Wm (by omega) ?_|refine dF (by omega) (fun h => ?_)|refine Bn ?_|refine Fm rfl ?_)|refine Bt ?_|refine Bu ?_)
   refine congrArg (fun z => [B z]) (decide_eq_true ?_).symm
   refine List.ext_getElem? fun j => ?_
   rcases Nat.lt_or_ge j i with h1 | h1
   ·exact hall j h1
   ·rw [List.getElem?_eq_none (by omega), List.getElem?_eq_none (by omega)]
theorem eqPost_ok (a b : DPost) (hs : DPost.sml a) : CallsA Tryz.prog 325 false [.val (some 2) (DPost.enc .imm a), .val (some 2) (DPost.enc .imm b)] .one [B (decide (a = b))] := by
 refine fO (n := 15) [] Tryz.func325 (by kernel_rfl) rfl (by kernel_rfl) (by rfl) (.inr ⟨trivial, trivial⟩) ?_
 repeat' ((conv=>whnf);first|with_reducible (first|refine Lm ?_|refine Wm (by omega) ?_|refine Bf.N (fun h => ?_) (fun h => ?_)|refine Bf.NB (fun h => ?_) (fun h => ?_)|refine Bf.D (fun h => ?_) (fun h => ?_)|refine Bn ?_|refine Fm rfl ?_)|refine Bt ?_|refine Bu ?_)
 all_goals first | (show [B false] = [B (decide (a = b))]; refine congrArg (fun z => [B z]) (decide_eq_false fun e => ?_).symm; subst e; contradiction) | (show [B true] = [B (decide (a = b))]; refine congrArg (fun z => [B z]) (decide_eq_true ?_).symm; cases a; cases b; simp_all)
theorem eqPostS_ok (a b : List DPost) (hs : smlDPostS a) : CallsA Tryz.prog 253 false [.val none (rDPostS .imm a), .val none (rDPostS .imm b)] .one [B (decide (a = b))] := by
 refine fO (n := 27) [(6, 10, [17, 18, 19, 20, 21, 22, 23, 24, 25, 26])] Tryz.func253 (by kernel_rfl) rfl (by kernel_rfl) (by rfl) (.inr ⟨trivial, trivial⟩) ?_
 have hl : a.length ≤ 1048576 := hs.1
 repeat' ((conv=>whnf);first|with_reducible (first|refine Lm ?_|refine Wm (by omega) ?_|refine Bf.N (fun h => ?_) (fun h => ?_)|refine Bn ?_|refine Fm rfl ?_)|refine Bt ?_|refine Bu ?_)
 ·refine congrArg (fun z => [B z]) (decide_eq_false fun e => ?_).symm
  subst e
  omega
 have hlab : a.length = b.length := by omega
 (conv=>whnf)
 refine Lp.mk (ι := Nat) (fun i => [(0, .hold .one (rDPostS .imm a)), (1, .hold .one (rDPostS .imm b)), (5, .hold .one [I (i : Nat)])]) (fun i => i ≤ a.length ∧ ∀ j, j < i → a[j]? = b[j]?) (fun i => a.length - i) 0 ?_ ⟨Nat.zero_le _, fun j hj => by omega⟩ fun i hi => ?_
 ·repeat' (first|exact trivial|rfl|refine And.intro ?_ ?_)
 ·obtain ⟨hi, hall⟩ := hi
  by_cases hlt : i < a.length
  ·obtain ⟨x, hx⟩ : ∃ x, a[i]? = some x := ⟨_, List.getElem?_eq_getElem hlt⟩
   obtain ⟨y, hy⟩ : ∃ y, b[i]? = some y := ⟨_, List.getElem?_eq_getElem (by omega)⟩
   repeat' ((conv=>whnf);first|with_reducible (first|refine Lm ?_|refine Wm (by omega) ?_|refine Ix.nat (get_map hx) ?_|refine Ix.nat (get_map hy) ?_|refine dT (by omega) (fun h => ?_)|refine Bf.N (fun h => ?_) (fun h => ?_)|refine Bf.NB (fun h => ?_) (fun h => ?_)|refine Bf.D (fun h => ?_) (fun h => ?_)|refine Bn ?_|refine Fm rfl ?_)|refine Bt ?_|refine Bu ?_|refine Cl.mk (eqPost_ok x y trivial) ?_)
   all_goals first
    |(show [B false] = [B (decide (a = b))]
      refine congrArg (fun z => [B z]) (decide_eq_false fun e => ?_).symm
      subst e
      simp_all)
    | ((conv=>whnf)
       refine Nx.mk (i + 1) ⟨by omega, fun j hj => ?_⟩ (by omega) ?_
       · rcases Nat.lt_or_ge j i with h1 | h1
         · exact hall j h1
         · obtain rfl : j = i := by omega
           rw [hx, hy]
           simp_all
       · repeat' (first|exact trivial|rfl|refine And.intro ?_ ?_))
  ·repeat' ((conv=>whnf);first|with_reducible (first|refine Lm ?_|refine Wm (by omega) ?_|refine dF (by omega) (fun h => ?_)|refine Bn ?_|refine Fm rfl ?_)|refine Bt ?_|refine Bu ?_)
   refine congrArg (fun z => [B z]) (decide_eq_true ?_).symm
   refine List.ext_getElem? fun j => ?_
   rcases Nat.lt_or_ge j i with h1 | h1
   ·exact hall j h1
   ·rw [List.getElem?_eq_none (by omega), List.getElem?_eq_none (by omega)]
theorem eqPostSS_ok (a b : List (List DPost)) (hs : smlDPostSS a) : CallsA Tryz.prog 149 false [.val none (rDPostSS .imm a), .val none (rDPostSS .imm b)] .one [B (decide (a = b))] := by
 refine fO (n := 27) [(6, 10, [17, 18, 19, 20, 21, 22, 23, 24, 25, 26])] Tryz.func149 (by kernel_rfl) rfl (by kernel_rfl) (by rfl) (.inr ⟨trivial, trivial⟩) ?_
 have hl : a.length ≤ 1048576 := hs.1
 repeat' ((conv=>whnf);first|with_reducible (first|refine Lm ?_|refine Wm (by omega) ?_|refine Bf.N (fun h => ?_) (fun h => ?_)|refine Bn ?_|refine Fm rfl ?_)|refine Bt ?_|refine Bu ?_)
 ·refine congrArg (fun z => [B z]) (decide_eq_false fun e => ?_).symm
  subst e
  omega
 have hlab : a.length = b.length := by omega
 (conv=>whnf)
 refine Lp.mk (ι := Nat) (fun i => [(0, .hold .one (rDPostSS .imm a)), (1, .hold .one (rDPostSS .imm b)), (5, .hold .one [I (i : Nat)])]) (fun i => i ≤ a.length ∧ ∀ j, j < i → a[j]? = b[j]?) (fun i => a.length - i) 0 ?_ ⟨Nat.zero_le _, fun j hj => by omega⟩ fun i hi => ?_
 ·repeat' (first|exact trivial|rfl|refine And.intro ?_ ?_)
 ·obtain ⟨hi, hall⟩ := hi
  by_cases hlt : i < a.length
  ·obtain ⟨x, hx⟩ : ∃ x, a[i]? = some x := ⟨_, List.getElem?_eq_getElem hlt⟩
   obtain ⟨y, hy⟩ : ∃ y, b[i]? = some y := ⟨_, List.getElem?_eq_getElem (by omega)⟩
   repeat' ((conv=>whnf);first|with_reducible (first|refine Lm ?_|refine Wm (by omega) ?_|refine Ix.nat (get_map hx) ?_|refine Ix.nat (get_map hy) ?_|refine dT (by omega) (fun h => ?_)|refine Bf.N (fun h => ?_) (fun h => ?_)|refine Bf.NB (fun h => ?_) (fun h => ?_)|refine Bf.D (fun h => ?_) (fun h => ?_)|refine Bn ?_|refine Fm rfl ?_)|refine Bt ?_|refine Bu ?_|refine Cl.mk (eqPostS_ok x y (hs.2 x (List.mem_of_getElem? hx))) ?_)
   all_goals first
    |(show [B false] = [B (decide (a = b))]
      refine congrArg (fun z => [B z]) (decide_eq_false fun e => ?_).symm
      subst e
      simp_all)
    | ((conv=>whnf)
       refine Nx.mk (i + 1) ⟨by omega, fun j hj => ?_⟩ (by omega) ?_
       · rcases Nat.lt_or_ge j i with h1 | h1
         · exact hall j h1
         · obtain rfl : j = i := by omega
           rw [hx, hy]
           simp_all
       · repeat' (first|exact trivial|rfl|refine And.intro ?_ ?_))
  ·repeat' ((conv=>whnf);first|with_reducible (first|refine Lm ?_|refine Wm (by omega) ?_|refine dF (by omega) (fun h => ?_)|refine Bn ?_|refine Fm rfl ?_)|refine Bt ?_|refine Bu ?_)
   refine congrArg (fun z => [B z]) (decide_eq_true ?_).symm
   refine List.ext_getElem? fun j => ?_
   rcases Nat.lt_or_ge j i with h1 | h1
   ·exact hall j h1
   ·rw [List.getElem?_eq_none (by omega), List.getElem?_eq_none (by omega)]
theorem eqMail_ok (a b : DMail) (hs : DMail.sml a) : CallsA Tryz.prog 53 false [.val (some 2) (DMail.enc .imm a), .val (some 2) (DMail.enc .imm b)] .one [B (decide (a = b))] := by
 obtain ⟨h0, h1⟩ := hs
 refine fO (n := 17) [] Tryz.func53 (by kernel_rfl) rfl (by kernel_rfl) (by rfl) (.inr ⟨trivial, trivial⟩) ?_
 repeat' ((conv=>whnf);first|with_reducible (first|refine Lm ?_|refine Wm (by omega) ?_|refine Bf.N (fun h => ?_) (fun h => ?_)|refine Bf.NB (fun h => ?_) (fun h => ?_)|refine Bf.D (fun h => ?_) (fun h => ?_)|refine Bn ?_|refine Fm rfl ?_)|refine Bt ?_|refine Bu ?_|refine Cl.mk (eqPostSS_ok a.Buffers b.Buffers h0) ?_|refine Cl.mk (eqIntSS_ok a.Inbox b.Inbox h1) ?_)
 all_goals first | (show [B false] = [B (decide (a = b))]; refine congrArg (fun z => [B z]) (decide_eq_false fun e => ?_).symm; subst e; contradiction) | (show [B true] = [B (decide (a = b))]; refine congrArg (fun z => [B z]) (decide_eq_true ?_).symm; cases a; cases b; simp_all)
theorem eqStale_ok (a b : DStale) (hs : DStale.sml a) : CallsA Tryz.prog 254 false [.val (some 3) (DStale.enc .imm a), .val (some 3) (DStale.enc .imm b)] .one [B (decide (a = b))] := by
 refine fO (n := 20) [] Tryz.func254 (by kernel_rfl) rfl (by kernel_rfl) (by rfl) (.inr ⟨trivial, trivial⟩) ?_
 repeat' ((conv=>whnf);first|with_reducible (first|refine Lm ?_|refine Wm (by omega) ?_|refine Bf.N (fun h => ?_) (fun h => ?_)|refine Bf.NB (fun h => ?_) (fun h => ?_)|refine Bf.D (fun h => ?_) (fun h => ?_)|refine Bn ?_|refine Fm rfl ?_)|refine Bt ?_|refine Bu ?_)
 all_goals first | (show [B false] = [B (decide (a = b))]; refine congrArg (fun z => [B z]) (decide_eq_false fun e => ?_).symm; subst e; contradiction) | (show [B true] = [B (decide (a = b))]; refine congrArg (fun z => [B z]) (decide_eq_true ?_).symm; cases a; cases b; simp_all)
theorem eqStaleS_ok (a b : List DStale) (hs : smlDStaleS a) : CallsA Tryz.prog 151 false [.val none (rDStaleS .imm a), .val none (rDStaleS .imm b)] .one [B (decide (a = b))] := by
 refine fO (n := 27) [(6, 10, [17, 18, 19, 20, 21, 22, 23, 24, 25, 26])] Tryz.func151 (by kernel_rfl) rfl (by kernel_rfl) (by rfl) (.inr ⟨trivial, trivial⟩) ?_
 have hl : a.length ≤ 1048576 := hs.1
 repeat' ((conv=>whnf);first|with_reducible (first|refine Lm ?_|refine Wm (by omega) ?_|refine Bf.N (fun h => ?_) (fun h => ?_)|refine Bn ?_|refine Fm rfl ?_)|refine Bt ?_|refine Bu ?_)
 ·refine congrArg (fun z => [B z]) (decide_eq_false fun e => ?_).symm
  subst e
  omega
 have hlab : a.length = b.length := by omega
 (conv=>whnf)
 refine Lp.mk (ι := Nat) (fun i => [(0, .hold .one (rDStaleS .imm a)), (1, .hold .one (rDStaleS .imm b)), (5, .hold .one [I (i : Nat)])]) (fun i => i ≤ a.length ∧ ∀ j, j < i → a[j]? = b[j]?) (fun i => a.length - i) 0 ?_ ⟨Nat.zero_le _, fun j hj => by omega⟩ fun i hi => ?_
 ·repeat' (first|exact trivial|rfl|refine And.intro ?_ ?_)
 ·obtain ⟨hi, hall⟩ := hi
  by_cases hlt : i < a.length
  ·obtain ⟨x, hx⟩ : ∃ x, a[i]? = some x := ⟨_, List.getElem?_eq_getElem hlt⟩
   obtain ⟨y, hy⟩ : ∃ y, b[i]? = some y := ⟨_, List.getElem?_eq_getElem (by omega)⟩
   repeat' ((conv=>whnf);first|with_reducible (first|refine Lm ?_|refine Wm (by omega) ?_|refine Ix.nat (get_map hx) ?_|refine Ix.nat (get_map hy) ?_|refine dT (by omega) (fun h => ?_)|refine Bf.N (fun h => ?_) (fun h => ?_)|refine Bf.NB (fun h => ?_) (fun h => ?_)|refine Bf.D (fun h => ?_) (fun h => ?_)|refine Bn ?_|refine Fm rfl ?_)|refine Bt ?_|refine Bu ?_|refine Cl.mk (eqStale_ok x y trivial) ?_)
   all_goals first
    |(show [B false] = [B (decide (a = b))]
      refine congrArg (fun z => [B z]) (decide_eq_false fun e => ?_).symm
      subst e
      simp_all)
    | ((conv=>whnf)
       refine Nx.mk (i + 1) ⟨by omega, fun j hj => ?_⟩ (by omega) ?_
       · rcases Nat.lt_or_ge j i with h1 | h1
         · exact hall j h1
         · obtain rfl : j = i := by omega
           rw [hx, hy]
           simp_all
       · repeat' (first|exact trivial|rfl|refine And.intro ?_ ?_))
  ·repeat' ((conv=>whnf);first|with_reducible (first|refine Lm ?_|refine Wm (by omega) ?_|refine dF (by omega) (fun h => ?_)|refine Bn ?_|refine Fm rfl ?_)|refine Bt ?_|refine Bu ?_)
   refine congrArg (fun z => [B z]) (decide_eq_true ?_).symm
   refine List.ext_getElem? fun j => ?_
   rcases Nat.lt_or_ge j i with h1 | h1
   ·exact hall j h1
   ·rw [List.getElem?_eq_none (by omega), List.getElem?_eq_none (by omega)]
theorem eqQuar_ok (a b : DQuar) (hs : DQuar.sml a) : CallsA Tryz.prog 54 false [.val (some 2) (DQuar.enc .imm a), .val (some 2) (DQuar.enc .imm b)] .one [B (decide (a = b))] := by
 have h0 := hs
 refine fO (n := 16) [] Tryz.func54 (by kernel_rfl) rfl (by kernel_rfl) (by rfl) (.inr ⟨trivial, trivial⟩) ?_
 repeat' ((conv=>whnf);first|with_reducible (first|refine Lm ?_|refine Wm (by omega) ?_|refine Bf.N (fun h => ?_) (fun h => ?_)|refine Bf.NB (fun h => ?_) (fun h => ?_)|refine Bf.D (fun h => ?_) (fun h => ?_)|refine Bn ?_|refine Fm rfl ?_)|refine Bt ?_|refine Bu ?_|refine Cl.mk (eqStaleS_ok a.Lst b.Lst h0) ?_)
 all_goals first | (show [B false] = [B (decide (a = b))]; refine congrArg (fun z => [B z]) (decide_eq_false fun e => ?_).symm; subst e; contradiction) | (show [B true] = [B (decide (a = b))]; refine congrArg (fun z => [B z]) (decide_eq_true ?_).symm; cases a; cases b; simp_all)
theorem eqPlan_ok (a b : DPlan) (hs : DPlan.sml a) : CallsA Tryz.prog 152 false [.val (some 3) (DPlan.enc .imm a), .val (some 3) (DPlan.enc .imm b)] .one [B (decide (a = b))] := by
 have h0 := hs
 refine fO (n := 21) [] Tryz.func152 (by kernel_rfl) rfl (by kernel_rfl) (by rfl) (.inr ⟨trivial, trivial⟩) ?_
 repeat' ((conv=>whnf);first|with_reducible (first|refine Lm ?_|refine Wm (by omega) ?_|refine Bf.N (fun h => ?_) (fun h => ?_)|refine Bf.NB (fun h => ?_) (fun h => ?_)|refine Bf.D (fun h => ?_) (fun h => ?_)|refine Bn ?_|refine Fm rfl ?_)|refine Bt ?_|refine Bu ?_|refine Cl.mk (eqIntS_ok a.Cells b.Cells h0) ?_)
 all_goals first | (show [B false] = [B (decide (a = b))]; refine congrArg (fun z => [B z]) (decide_eq_false fun e => ?_).symm; subst e; contradiction) | (show [B true] = [B (decide (a = b))]; refine congrArg (fun z => [B z]) (decide_eq_true ?_).symm; cases a; cases b; simp_all)
theorem eqJob_ok (a b : DJob) (hs : DJob.sml a) : CallsA Tryz.prog 55 false [.val (some 5) (DJob.enc .imm a), .val (some 5) (DJob.enc .imm b)] .one [B (decide (a = b))] := by
 have h0 := hs
 refine fO (n := 21) [] Tryz.func55 (by kernel_rfl) rfl (by kernel_rfl) (by rfl) (.inr ⟨trivial, trivial⟩) ?_
 repeat' ((conv=>whnf);first|with_reducible (first|refine Lm ?_|refine Wm (by omega) ?_|refine Bf.N (fun h => ?_) (fun h => ?_)|refine Bf.NB (fun h => ?_) (fun h => ?_)|refine Bf.D (fun h => ?_) (fun h => ?_)|refine Bn ?_|refine Fm rfl ?_)|refine Bt ?_|refine Bu ?_|refine Cl.mk (eqPlan_ok a.Plan b.Plan h0) ?_)
 all_goals first | (show [B false] = [B (decide (a = b))]; refine congrArg (fun z => [B z]) (decide_eq_false fun e => ?_).symm; subst e; contradiction) | (show [B true] = [B (decide (a = b))]; refine congrArg (fun z => [B z]) (decide_eq_true ?_).symm; cases a; cases b; simp_all)
theorem eqHeap_ok (a b : DHeap) (hs : DHeap.sml a) : CallsA Tryz.prog 10 false [.val (some 24) (DHeap.enc .imm a), .val (some 24) (DHeap.enc .imm b)] .one [B (decide (a = b))] := by
 obtain ⟨h0, h1, h2, h3, h4, h5, h6, h7, h8⟩ := hs
 refine fO (n := 84) [] Tryz.func10 (by kernel_rfl) rfl (by kernel_rfl) (by rfl) (.inr ⟨trivial, trivial⟩) ?_
 repeat' ((conv=>whnf);first|with_reducible (first|refine Lm ?_|refine Wm (by omega) ?_|refine Bf.N (fun h => ?_) (fun h => ?_)|refine Bf.NB (fun h => ?_) (fun h => ?_)|refine Bf.D (fun h => ?_) (fun h => ?_)|refine Bn ?_|refine Fm rfl ?_)|refine Bt ?_|refine Bu ?_|refine Cl.mk (eqKernel_ok a.Kernel b.Kernel h0) ?_|refine Cl.mk (eqRangeS_ok a.Free b.Free h1) ?_|refine Cl.mk (eqSpanS_ok a.Spans b.Spans h2) ?_|refine Cl.mk (eqLargeS_ok a.Larges b.Larges h3) ?_|refine Cl.mk (eqObjS_ok a.Objs b.Objs h4) ?_|refine Cl.mk (eqCacheS_ok a.Caches b.Caches h5) ?_|refine Cl.mk (eqMail_ok a.Mail b.Mail h6) ?_|refine Cl.mk (eqQuar_ok a.Quar b.Quar h7) ?_|refine Cl.mk (eqJob_ok a.Job b.Job h8) ?_)
 all_goals first | (show [B false] = [B (decide (a = b))]; refine congrArg (fun z => [B z]) (decide_eq_false fun e => ?_).symm; subst e; contradiction) | (show [B true] = [B (decide (a = b))]; refine congrArg (fun z => [B z]) (decide_eq_true ?_).symm; cases a; cases b; simp_all)
end Go.Proofs.YtogajjgmcnjkbaaGreat.Ab
/- Contracts of the laws' generic functions (mark). Printed by gen_con.py. No condition. -/
namespace Go.Proofs.YtogajjgmcnjkbaaGreat.Ab
open Go.RowKit
set_option maxRecDepth 20000
set_option maxHeartbeats 2000000

theorem markIntS_ok (x : List Int) (k : Int) (hs : smlIntS x) (h0 : 0 ≤ k) (h1 : k + (cntIntS x : Nat) ≤ 1099511627776) : CallsM Tryz.prog 154 false [.mut none (rIntS .own x), .val none [I k]] [.mut none (rIntS .own (markIntS x k)), .val none []] .one [I (k + (cntIntS x : Nat))] := by
 have hl : x.length ≤ 1048576 := hs
 unfold cntIntS at h1
 have hml : ((markIntS x k).map (rI .own)).length = (x.map (rI .own)).length := by simp [markIntS_len]
 refine fnMOk (n := 19) (mo := []) (tb := []) [(0, 0), (0, 0)] Tryz.func154 (by kernel_rfl) rfl (by kernel_rfl) (by rfl) (by rfl) (.inr ⟨trivial, trivial⟩) fun u p => ?_
 repeat' ((conv=>whnf);first|with_reducible (first|refine Lm ?_|refine Wm (by omega) ?_|refine Bn ?_|refine Fm rfl ?_)|refine Bt ?_|refine Bu ?_)
 (conv=>whnf)
 refine Lp.mk (ι := Nat) (fun i => [(0, .hold .one [.s (.tag (u 0 0)) (mixR ((markIntS x k).map (rI .own)) (x.map (rI .own)) i)]), (1, .hold .one [I (k + (preIntS x i : Nat))]), (5, .hold .one [I (i : Nat)])]) (fun i => i ≤ x.length) (fun i => x.length - i) 0 ?_ (Nat.zero_le _) fun i hi => ?_
 ·rw [mix_zero]
  repeat' (first|exact trivial|rfl|exact And.intro rfl (And.intro (congrArg I (by unfold preIntS; omega)) trivial)|refine And.intro ?_ ?_)
 ·have hlen := (mix_len hml i).trans (show (x.map (rI .own)).length = x.length by simp)
  by_cases hlt : i < x.length
  ·obtain ⟨y, hy⟩ : ∃ y, x[i]? = some y := ⟨_, List.getElem?_eq_getElem hlt⟩
   have hr := mix_get hml i (by simp; omega)
   rw [get_map hy] at hr
   have hm := markIntS_get x k i hlt
   unfold preIntS
   repeat' ((conv=>whnf);first|with_reducible (first|refine Lm ?_|refine Wm (by omega) ?_|refine dT (by omega) (fun h => ?_)|refine Ln.mk hlen ?_|refine Ix.nat hr ?_|refine Bn ?_|refine Fm rfl ?_)|refine Bt ?_|refine Bu ?_|refine Pu.one rfl rfl hr rfl (Nat.le_refl _) rfl ?_|refine Cd.mk (by decide) ?_|refine Ev.mk rfl ?_|refine Ix.nat (set_get hr) ?_|refine Nx.mk (i + 1) (by omega) (by omega) ?_)
   repeat' (first|exact trivial|rfl|exact And.intro rfl (And.intro (congrArg (C.s _) (by first|exact mix_set hml (get_map hm)|(simp only [List.set_set]; exact mix_set hml (get_map hm)))) trivial)|exact And.intro rfl (And.intro (congrArg I (by first|omega|(unfold preIntS; omega))) trivial)|refine And.intro ?_ ?_)
  ·repeat' ((conv=>whnf);first|with_reducible (first|refine Lm ?_|refine Wm (by omega) ?_|refine dF (by omega) (fun h => ?_)|refine Ln.mk hlen ?_|refine Bn ?_|refine Fm rfl ?_)|refine Bt ?_|refine Bu ?_|refine FinM.mk rfl ?_ ?_)
   ·have he : i = x.length := by omega
    subst he
    exact congrArg (fun z => [I z]) (by unfold preIntS cntIntS; rfl)
   ·rw [mix_end _ hml (by simp; omega)]
    repeat' (first | exact trivial | exact rfl | refine And.intro ?_ ?_)
theorem markIntSS_ok (x : List (List Int)) (k : Int) (hs : smlIntSS x) (h0 : 0 ≤ k) (h1 : k + (cntIntSS x : Nat) ≤ 1099511627776) : CallsM Tryz.prog 155 false [.mut none (rIntSS .own x), .val none [I k]] [.mut none (rIntSS .own (markIntSS x k)), .val none []] .one [I (k + (cntIntSS x : Nat))] := by
 have hl : x.length ≤ 1048576 := hs.1
 have hml : ((markIntSS x k).map (rIntS .own)).length = (x.map (rIntS .own)).length := by simp [markIntSS_len]
 refine fnMOk (n := 19) (mo := [(154, [1, 0])]) (tb := []) [(0, 0), (0, 0)] Tryz.func155 (by kernel_rfl) rfl (by kernel_rfl) (by rfl) (by rfl) (.inr ⟨trivial, trivial⟩) fun u p => ?_
 repeat' ((conv=>whnf);first|with_reducible (first|refine Lm ?_|refine Wm (by omega) ?_|refine Bn ?_|refine Fm rfl ?_)|refine Bt ?_|refine Bu ?_)
 (conv=>whnf)
 refine Lp.mk (ι := Nat) (fun i => [(0, .hold .one [.s (.tag (u 0 0)) (mixR ((markIntSS x k).map (rIntS .own)) (x.map (rIntS .own)) i)]), (1, .hold .one [I (k + (preIntSS x i : Nat))]), (5, .hold .one [I (i : Nat)])]) (fun i => i ≤ x.length) (fun i => x.length - i) 0 ?_ (Nat.zero_le _) fun i hi => ?_
 ·rw [mix_zero, preIntSS_zero]
  repeat' (first|exact trivial|rfl|exact And.intro rfl (And.intro (congrArg I (by omega)) trivial)|refine And.intro ?_ ?_)
 ·have hlen := (mix_len hml i).trans (show (x.map (rIntS .own)).length = x.length by simp)
  by_cases hlt : i < x.length
  ·obtain ⟨y, hy⟩ : ∃ y, x[i]? = some y := ⟨_, List.getElem?_eq_getElem hlt⟩
   have hr := mix_get hml i (by simp; omega)
   rw [get_map hy] at hr
   have hm := markIntSS_get x k i y hy
   have hps := preIntSS_succ x i y hy
   have hpl := preIntSS_le x (i + 1)
   rw [hps] at hpl
   repeat' ((conv=>whnf);first|with_reducible (first|refine Lm ?_|refine Wm (by omega) ?_|refine dT (by omega) (fun h => ?_)|refine Ln.mk hlen ?_|refine Ix.nat hr ?_|refine Bn ?_|refine Fm rfl ?_)|refine Bt ?_|refine Bu ?_|refine Rw.one rfl hr rfl ?_|refine Lq.one rfl rfl hr rfl (Nat.le_refl _) rfl rfl ?_|refine ClM.mk (markIntS_ok y _ (hs.2 y (List.mem_of_getElem? hy)) (by omega) (by omega)) (.inl rfl) ?_|refine Pu.one rfl rfl (set_get hr) rfl (Nat.le_refl _) rfl ?_|refine Ix.nat (set_get hr) ?_|refine Nx.mk (i + 1) (by omega) (by omega) ?_)
   repeat' (first|exact trivial|rfl|exact And.intro rfl (And.intro (congrArg (C.s _) (by first|exact mix_set hml (get_map hm)|(simp only [List.set_set]; exact mix_set hml (get_map hm)))) trivial)|exact And.intro rfl (And.intro (congrArg I (by omega)) trivial)|refine And.intro ?_ ?_)
  ·repeat' ((conv=>whnf);first|with_reducible (first|refine Lm ?_|refine Wm (by omega) ?_|refine dF (by omega) (fun h => ?_)|refine Ln.mk hlen ?_|refine Bn ?_|refine Fm rfl ?_)|refine Bt ?_|refine Bu ?_|refine FinM.mk rfl ?_ ?_)
   ·have he : i = x.length := by omega
    subst he
    exact congrArg (fun z => [I z]) (by rw [preIntSS_all])
   ·rw [mix_end _ hml (by simp; omega)]
    repeat' (first | exact trivial | exact rfl | refine And.intro ?_ ?_)
theorem markBoolS_ok (x : List Bool) (k : Int) (hs : smlBoolS x) (h0 : 0 ≤ k) (h1 : k + (cntBoolS x : Nat) ≤ 1099511627776) : CallsM Tryz.prog 326 false [.mut none (rBoolS .own x), .val none [I k]] [.mut none (rBoolS .own (markBoolS x k)), .val none []] .one [I (k + (cntBoolS x : Nat))] := by
 have hl : x.length ≤ 1048576 := hs
 unfold cntBoolS at h1
 have hml : ((markBoolS x k).map (rB .own)).length = (x.map (rB .own)).length := by simp [markBoolS_len]
 refine fnMOk (n := 21) (mo := []) (tb := []) [(0, 0), (0, 0)] Tryz.func326 (by kernel_rfl) rfl (by kernel_rfl) (by rfl) (by rfl) (.inr ⟨trivial, trivial⟩) fun u p => ?_
 repeat' ((conv=>whnf);first|with_reducible (first|refine Lm ?_|refine Wm (by omega) ?_|refine Bn ?_|refine Fm rfl ?_)|refine Bt ?_|refine Bu ?_)
 (conv=>whnf)
 refine Lp.mk (ι := Nat) (fun i => [(0, .hold .one [.s (.tag (u 0 0)) (mixR ((markBoolS x k).map (rB .own)) (x.map (rB .own)) i)]), (1, .hold .one [I (k + (preBoolS x i : Nat))]), (5, .hold .one [I (i : Nat)])]) (fun i => i ≤ x.length) (fun i => x.length - i) 0 ?_ (Nat.zero_le _) fun i hi => ?_
 ·rw [mix_zero]
  repeat' (first|exact trivial|rfl|exact And.intro rfl (And.intro (congrArg I (by unfold preBoolS; omega)) trivial)|refine And.intro ?_ ?_)
 ·have hlen := (mix_len hml i).trans (show (x.map (rB .own)).length = x.length by simp)
  by_cases hlt : i < x.length
  ·obtain ⟨y, hy⟩ : ∃ y, x[i]? = some y := ⟨_, List.getElem?_eq_getElem hlt⟩
   have hr := mix_get hml i (by simp; omega)
   rw [get_map hy] at hr
   have hm := markBoolS_get x k i hlt
   unfold preBoolS
   repeat' ((conv=>whnf);first|with_reducible (first|refine Lm ?_|refine Wm (by omega) ?_|refine dT (by omega) (fun h => ?_)|refine Ln.mk hlen ?_|refine Ix.nat hr ?_|refine Bn ?_|refine Fm rfl ?_)|refine Bt ?_|refine Bu ?_|refine Pu.one rfl rfl hr rfl (Nat.le_refl _) rfl ?_|refine Cd.mk (by decide) ?_|refine Ev.mk rfl ?_|refine Ix.nat (set_get hr) ?_|refine Nx.mk (i + 1) (by omega) (by omega) ?_)
   repeat' (first|exact trivial|rfl|exact And.intro rfl (And.intro (congrArg (C.s _) (by first|exact mix_set hml (get_map hm)|(simp only [List.set_set]; exact mix_set hml (get_map hm)))) trivial)|exact And.intro rfl (And.intro (congrArg I (by first|omega|(unfold preBoolS; omega))) trivial)|refine And.intro ?_ ?_)
  ·repeat' ((conv=>whnf);first|with_reducible (first|refine Lm ?_|refine Wm (by omega) ?_|refine dF (by omega) (fun h => ?_)|refine Ln.mk hlen ?_|refine Bn ?_|refine Fm rfl ?_)|refine Bt ?_|refine Bu ?_|refine FinM.mk rfl ?_ ?_)
   ·have he : i = x.length := by omega
    subst he
    exact congrArg (fun z => [I z]) (by unfold preBoolS cntBoolS; rfl)
   ·rw [mix_end _ hml (by simp; omega)]
    repeat' (first | exact trivial | exact rfl | refine And.intro ?_ ?_)
theorem markFrames_ok (x : DFrames) (k : Int) (hs : DFrames.sml x) (h0 : 0 ≤ k) (h1 : k + (DFrames.cnt x : Nat) ≤ 1099511627776) : CallsM Tryz.prog 255 false [.mut (some 2) (DFrames.enc .own x), .val none [I k]] [.mut (some 2) (DFrames.enc .own (x.mark k)), .val none []] .one [I (k + (DFrames.cnt x : Nat))] := by
 obtain ⟨s0, s1⟩ := hs
 unfold DFrames.cnt at h1
 refine fnMOk (n := 14) (mo := [(155, [1, 0]), (326, [1, 0])]) (tb := []) [(2, 0), (0, 0)] Tryz.func255 (by kernel_rfl) rfl (by kernel_rfl) (by rfl) (by rfl) (.inr ⟨trivial, trivial⟩) fun u p => ?_
 repeat' ((conv=>whnf);first|with_reducible (first|refine Lm ?_|refine Wm (by omega) ?_|refine Bn ?_|refine Fm rfl ?_)|refine Bt ?_|refine Bu ?_|refine ClM.mk (markIntSS_ok x.Cells _ s0 (by omega) (by omega)) (.inl rfl) ?_|refine ClM.mk (markBoolS_ok x.Used _ s1 (by omega) (by omega)) (.inl rfl) ?_|refine FinM.mk rfl ?_ ?_)
 ·exact congrArg (fun z => [I z]) (by unfold DFrames.cnt; omega)
 ·repeat' (first | exact trivial | exact rfl | refine And.intro ?_ ?_)
theorem markEntryS_ok (x : List DEntry) (k : Int) (hs : smlDEntryS x) (h0 : 0 ≤ k) (h1 : k + (cntDEntryS x : Nat) ≤ 1099511627776) : CallsM Tryz.prog 327 false [.mut none (rDEntryS .own x), .val none [I k]] [.mut none (rDEntryS .own (markDEntryS x k)), .val none []] .one [I (k + (cntDEntryS x : Nat))] := by
 have hl : x.length ≤ 1048576 := hs.1
 have hml : ((markDEntryS x k).map (DEntry.enc .own)).length = (x.map (DEntry.enc .own)).length := by simp [markDEntryS_len]
 refine fnMOk (n := 27) (mo := []) (tb := []) [(0, 0), (0, 0)] Tryz.func327 (by kernel_rfl) rfl (by kernel_rfl) (by rfl) (by rfl) (.inr ⟨trivial, trivial⟩) fun u p => ?_
 repeat' ((conv=>whnf);first|with_reducible (first|refine Lm ?_|refine Wm (by omega) ?_|refine Bn ?_|refine Fm rfl ?_)|refine Bt ?_|refine Bu ?_)
 (conv=>whnf)
 refine Lp.mk (ι := Nat) (fun i => [(0, .hold .one [.s (.tag (u 0 0)) (mixR ((markDEntryS x k).map (DEntry.enc .own)) (x.map (DEntry.enc .own)) i)]), (1, .hold .one [I (k + (preDEntryS x i : Nat))]), (5, .hold .one [I (i : Nat)])]) (fun i => i ≤ x.length) (fun i => x.length - i) 0 ?_ (Nat.zero_le _) fun i hi => ?_
 ·rw [mix_zero, preDEntryS_zero]
  repeat' (first|exact trivial|rfl|exact And.intro rfl (And.intro (congrArg I (by omega)) trivial)|refine And.intro ?_ ?_)
 ·have hlen := (mix_len hml i).trans (show (x.map (DEntry.enc .own)).length = x.length by simp)
  by_cases hlt : i < x.length
  ·obtain ⟨y, hy⟩ : ∃ y, x[i]? = some y := ⟨_, List.getElem?_eq_getElem hlt⟩
   have hr := mix_get hml i (by simp; omega)
   rw [get_map hy] at hr
   have hm := markDEntryS_get x k i y hy
   have hps := preDEntryS_succ x i y hy
   have hpl := preDEntryS_le x (i + 1)
   rw [hps] at hpl
   simp only [DEntry.cnt] at hps hpl
   repeat' ((conv=>whnf);first|with_reducible (first|refine Lm ?_|refine Wm (by omega) ?_|refine dT (by omega) (fun h => ?_)|refine Ln.mk hlen ?_|refine Ix.nat hr ?_|refine Bn ?_|refine Fm rfl ?_)|refine Bt ?_|refine Bu ?_|refine Pu.one rfl rfl hr rfl (Nat.le_of_ble_eq_true rfl) rfl ?_|refine Pu.one rfl rfl (set_get hr) rfl (Nat.le_of_ble_eq_true rfl) rfl ?_|refine Ix.nat (set_get hr) ?_|refine Nx.mk (i + 1) (by omega) (by omega) ?_)
   repeat' (first|exact trivial|rfl|exact And.intro rfl (And.intro (congrArg (C.s _) (by first|exact mix_set hml (get_map hm)|(simp only [List.set_set]; exact mix_set hml (get_map hm)))) trivial)|exact And.intro rfl (And.intro (congrArg I (by first|omega|(simp only [DEntry.cnt] at hps; omega))) trivial)|refine And.intro ?_ ?_)
  ·repeat' ((conv=>whnf);first|with_reducible (first|refine Lm ?_|refine Wm (by omega) ?_|refine dF (by omega) (fun h => ?_)|refine Ln.mk hlen ?_|refine Bn ?_|refine Fm rfl ?_)|refine Bt ?_|refine Bu ?_|refine FinM.mk rfl ?_ ?_)
   ·have he : i = x.length := by omega
    subst he
    exact congrArg (fun z => [I z]) (by rw [preDEntryS_all])
   ·rw [mix_end _ hml (by simp; omega)]
    repeat' (first | exact trivial | exact rfl | refine And.intro ?_ ?_)
theorem markTable_ok (x : DTable) (k : Int) (hs : DTable.sml x) (h0 : 0 ≤ k) (h1 : k + (DTable.cnt x : Nat) ≤ 1099511627776) : CallsM Tryz.prog 256 false [.mut (some 1) (DTable.enc .own x), .val none [I k]] [.mut (some 1) (DTable.enc .own (x.mark k)), .val none []] .one [I (k + (DTable.cnt x : Nat))] := by
 have s0 := hs
 unfold DTable.cnt at h1
 refine fnMOk (n := 10) (mo := [(327, [1, 0])]) (tb := []) [(2, 0), (0, 0)] Tryz.func256 (by kernel_rfl) rfl (by kernel_rfl) (by rfl) (by rfl) (.inr ⟨trivial, trivial⟩) fun u p => ?_
 repeat' ((conv=>whnf);first|with_reducible (first|refine Lm ?_|refine Wm (by omega) ?_|refine Bn ?_|refine Fm rfl ?_)|refine Bt ?_|refine Bu ?_|refine ClM.mk (markEntryS_ok x.Entries _ s0 (by omega) (by omega)) (.inl rfl) ?_|refine FinM.mk rfl ?_ ?_)
 ·exact congrArg (fun z => [I z]) (by unfold DTable.cnt; omega)
 ·repeat' (first | exact trivial | exact rfl | refine And.intro ?_ ?_)
theorem markMachine_ok (x : DMachine) (k : Int) (hs : DMachine.sml x) (h0 : 0 ≤ k) (h1 : k + (DMachine.cnt x : Nat) ≤ 1099511627776) : CallsM Tryz.prog 153 false [.mut (some 3) (DMachine.enc .own x), .val none [I k]] [.mut (some 3) (DMachine.enc .own (x.mark k)), .val none []] .one [I (k + (DMachine.cnt x : Nat))] := by
 obtain ⟨s0, s1⟩ := hs
 unfold DMachine.cnt at h1
 refine fnMOk (n := 14) (mo := [(255, [1, 0]), (256, [1, 0])]) (tb := []) [(2, 0), (0, 0)] Tryz.func153 (by kernel_rfl) rfl (by kernel_rfl) (by rfl) (by rfl) (.inr ⟨trivial, trivial⟩) fun u p => ?_
 repeat' ((conv=>whnf);first|with_reducible (first|refine Lm ?_|refine Wm (by omega) ?_|refine Bn ?_|refine Fm rfl ?_)|refine Bt ?_|refine Bu ?_|refine ClM.mk (markFrames_ok x.Frames _ s0 (by omega) (by omega)) (.inl rfl) ?_|refine ClM.mk (markTable_ok x.Table _ s1 (by omega) (by omega)) (.inl rfl) ?_|refine FinM.mk rfl ?_ ?_)
 ·exact congrArg (fun z => [I z]) (by unfold DMachine.cnt; omega)
 ·repeat' (first | exact trivial | exact rfl | refine And.intro ?_ ?_)
theorem markKernel_ok (x : DKernel) (k : Int) (hs : DKernel.sml x) (h0 : 0 ≤ k) (h1 : k + (DKernel.cnt x : Nat) ≤ 1099511627776) : CallsM Tryz.prog 56 false [.mut (some 5) (DKernel.enc .own x), .val none [I k]] [.mut (some 5) (DKernel.enc .own (x.mark k)), .val none []] .one [I (k + (DKernel.cnt x : Nat))] := by
 obtain ⟨s0, s1⟩ := hs
 unfold DKernel.cnt at h1
 refine fnMOk (n := 14) (mo := [(153, [1, 0]), (154, [1, 0])]) (tb := []) [(2, 0), (0, 0)] Tryz.func56 (by kernel_rfl) rfl (by kernel_rfl) (by rfl) (by rfl) (.inr ⟨trivial, trivial⟩) fun u p => ?_
 repeat' ((conv=>whnf);first|with_reducible (first|refine Lm ?_|refine Wm (by omega) ?_|refine Bn ?_|refine Fm rfl ?_)|refine Bt ?_|refine Bu ?_|refine ClM.mk (markMachine_ok x.Machine _ s0 (by omega) (by omega)) (.inl rfl) ?_|refine ClM.mk (markIntS_ok x.Refuse _ s1 (by omega) (by omega)) (.inl rfl) ?_|refine FinM.mk rfl ?_ ?_)
 ·exact congrArg (fun z => [I z]) (by unfold DKernel.cnt; omega)
 ·repeat' (first | exact trivial | exact rfl | refine And.intro ?_ ?_)
theorem markRangeS_ok (x : List DRange) (k : Int) (hs : smlDRangeS x) (h0 : 0 ≤ k) (h1 : k + (cntDRangeS x : Nat) ≤ 1099511627776) : CallsM Tryz.prog 57 false [.mut none (rDRangeS .own x), .val none [I k]] [.mut none (rDRangeS .own (markDRangeS x k)), .val none []] .one [I (k + (cntDRangeS x : Nat))] := by
 have hl : x.length ≤ 1048576 := hs.1
 have hml : ((markDRangeS x k).map (DRange.enc .own)).length = (x.map (DRange.enc .own)).length := by simp [markDRangeS_len]
 refine fnMOk (n := 27) (mo := []) (tb := []) [(0, 0), (0, 0)] Tryz.func57 (by kernel_rfl) rfl (by kernel_rfl) (by rfl) (by rfl) (.inr ⟨trivial, trivial⟩) fun u p => ?_
 repeat' ((conv=>whnf);first|with_reducible (first|refine Lm ?_|refine Wm (by omega) ?_|refine Bn ?_|refine Fm rfl ?_)|refine Bt ?_|refine Bu ?_)
 (conv=>whnf)
 refine Lp.mk (ι := Nat) (fun i => [(0, .hold .one [.s (.tag (u 0 0)) (mixR ((markDRangeS x k).map (DRange.enc .own)) (x.map (DRange.enc .own)) i)]), (1, .hold .one [I (k + (preDRangeS x i : Nat))]), (5, .hold .one [I (i : Nat)])]) (fun i => i ≤ x.length) (fun i => x.length - i) 0 ?_ (Nat.zero_le _) fun i hi => ?_
 ·rw [mix_zero, preDRangeS_zero]
  repeat' (first|exact trivial|rfl|exact And.intro rfl (And.intro (congrArg I (by omega)) trivial)|refine And.intro ?_ ?_)
 ·have hlen := (mix_len hml i).trans (show (x.map (DRange.enc .own)).length = x.length by simp)
  by_cases hlt : i < x.length
  ·obtain ⟨y, hy⟩ : ∃ y, x[i]? = some y := ⟨_, List.getElem?_eq_getElem hlt⟩
   have hr := mix_get hml i (by simp; omega)
   rw [get_map hy] at hr
   have hm := markDRangeS_get x k i y hy
   have hps := preDRangeS_succ x i y hy
   have hpl := preDRangeS_le x (i + 1)
   rw [hps] at hpl
   simp only [DRange.cnt] at hps hpl
   repeat' ((conv=>whnf);first|with_reducible (first|refine Lm ?_|refine Wm (by omega) ?_|refine dT (by omega) (fun h => ?_)|refine Ln.mk hlen ?_|refine Ix.nat hr ?_|refine Bn ?_|refine Fm rfl ?_)|refine Bt ?_|refine Bu ?_|refine Pu.one rfl rfl hr rfl (Nat.le_of_ble_eq_true rfl) rfl ?_|refine Pu.one rfl rfl (set_get hr) rfl (Nat.le_of_ble_eq_true rfl) rfl ?_|refine Ix.nat (set_get hr) ?_|refine Nx.mk (i + 1) (by omega) (by omega) ?_)
   repeat' (first|exact trivial|rfl|exact And.intro rfl (And.intro (congrArg (C.s _) (by first|exact mix_set hml (get_map hm)|(simp only [List.set_set]; exact mix_set hml (get_map hm)))) trivial)|exact And.intro rfl (And.intro (congrArg I (by first|omega|(simp only [DRange.cnt] at hps; omega))) trivial)|refine And.intro ?_ ?_)
  ·repeat' ((conv=>whnf);first|with_reducible (first|refine Lm ?_|refine Wm (by omega) ?_|refine dF (by omega) (fun h => ?_)|refine Ln.mk hlen ?_|refine Bn ?_|refine Fm rfl ?_)|refine Bt ?_|refine Bu ?_|refine FinM.mk rfl ?_ ?_)
   ·have he : i = x.length := by omega
    subst he
    exact congrArg (fun z => [I z]) (by rw [preDRangeS_all])
   ·rw [mix_end _ hml (by simp; omega)]
    repeat' (first | exact trivial | exact rfl | refine And.intro ?_ ?_)
theorem markSpanS_ok (x : List DSpan) (k : Int) (hs : smlDSpanS x) (h0 : 0 ≤ k) (h1 : k + (cntDSpanS x : Nat) ≤ 1099511627776) : CallsM Tryz.prog 58 false [.mut none (rDSpanS .own x), .val none [I k]] [.mut none (rDSpanS .own (markDSpanS x k)), .val none []] .one [I (k + (cntDSpanS x : Nat))] := by
 have hl : x.length ≤ 1048576 := hs.1
 have hml : ((markDSpanS x k).map (DSpan.enc .own)).length = (x.map (DSpan.enc .own)).length := by simp [markDSpanS_len]
 refine fnMOk (n := 34) (mo := []) (tb := []) [(0, 0), (0, 0)] Tryz.func58 (by kernel_rfl) rfl (by kernel_rfl) (by rfl) (by rfl) (.inr ⟨trivial, trivial⟩) fun u p => ?_
 repeat' ((conv=>whnf);first|with_reducible (first|refine Lm ?_|refine Wm (by omega) ?_|refine Bn ?_|refine Fm rfl ?_)|refine Bt ?_|refine Bu ?_)
 (conv=>whnf)
 refine Lp.mk (ι := Nat) (fun i => [(0, .hold .one [.s (.tag (u 0 0)) (mixR ((markDSpanS x k).map (DSpan.enc .own)) (x.map (DSpan.enc .own)) i)]), (1, .hold .one [I (k + (preDSpanS x i : Nat))]), (5, .hold .one [I (i : Nat)])]) (fun i => i ≤ x.length) (fun i => x.length - i) 0 ?_ (Nat.zero_le _) fun i hi => ?_
 ·rw [mix_zero, preDSpanS_zero]
  repeat' (first|exact trivial|rfl|exact And.intro rfl (And.intro (congrArg I (by omega)) trivial)|refine And.intro ?_ ?_)
 ·have hlen := (mix_len hml i).trans (show (x.map (DSpan.enc .own)).length = x.length by simp)
  by_cases hlt : i < x.length
  ·obtain ⟨y, hy⟩ : ∃ y, x[i]? = some y := ⟨_, List.getElem?_eq_getElem hlt⟩
   have hr := mix_get hml i (by simp; omega)
   rw [get_map hy] at hr
   have hm := markDSpanS_get x k i y hy
   have hps := preDSpanS_succ x i y hy
   have hpl := preDSpanS_le x (i + 1)
   rw [hps] at hpl
   simp only [DSpan.cnt] at hps hpl
   repeat' ((conv=>whnf);first|with_reducible (first|refine Lm ?_|refine Wm (by omega) ?_|refine dT (by omega) (fun h => ?_)|refine Ln.mk hlen ?_|refine Ix.nat hr ?_|refine Bn ?_|refine Fm rfl ?_)|refine Bt ?_|refine Bu ?_|refine Pu.one rfl rfl hr rfl (Nat.le_of_ble_eq_true rfl) rfl ?_|refine Pu.one rfl rfl (set_get hr) rfl (Nat.le_of_ble_eq_true rfl) rfl ?_|refine Pu.one rfl rfl (set_get (set_get hr)) rfl (Nat.le_of_ble_eq_true rfl) rfl ?_|refine Ix.nat (set_get hr) ?_|refine Ix.nat (set_get (set_get hr)) ?_|refine Nx.mk (i + 1) (by omega) (by omega) ?_)
   repeat' (first|exact trivial|rfl|exact And.intro rfl (And.intro (congrArg (C.s _) (by first|exact mix_set hml (get_map hm)|(simp only [List.set_set]; exact mix_set hml (get_map hm)))) trivial)|exact And.intro rfl (And.intro (congrArg I (by first|omega|(simp only [DSpan.cnt] at hps; omega))) trivial)|refine And.intro ?_ ?_)
  ·repeat' ((conv=>whnf);first|with_reducible (first|refine Lm ?_|refine Wm (by omega) ?_|refine dF (by omega) (fun h => ?_)|refine Ln.mk hlen ?_|refine Bn ?_|refine Fm rfl ?_)|refine Bt ?_|refine Bu ?_|refine FinM.mk rfl ?_ ?_)
   ·have he : i = x.length := by omega
    subst he
    exact congrArg (fun z => [I z]) (by rw [preDSpanS_all])
   ·rw [mix_end _ hml (by simp; omega)]
    repeat' (first | exact trivial | exact rfl | refine And.intro ?_ ?_)
theorem markLargeS_ok (x : List DLarge) (k : Int) (hs : smlDLargeS x) (h0 : 0 ≤ k) (h1 : k + (cntDLargeS x : Nat) ≤ 1099511627776) : CallsM Tryz.prog 59 false [.mut none (rDLargeS .own x), .val none [I k]] [.mut none (rDLargeS .own (markDLargeS x k)), .val none []] .one [I (k + (cntDLargeS x : Nat))] := by
 have hl : x.length ≤ 1048576 := hs.1
 have hml : ((markDLargeS x k).map (DLarge.enc .own)).length = (x.map (DLarge.enc .own)).length := by simp [markDLargeS_len]
 refine fnMOk (n := 34) (mo := []) (tb := []) [(0, 0), (0, 0)] Tryz.func59 (by kernel_rfl) rfl (by kernel_rfl) (by rfl) (by rfl) (.inr ⟨trivial, trivial⟩) fun u p => ?_
 repeat' ((conv=>whnf);first|with_reducible (first|refine Lm ?_|refine Wm (by omega) ?_|refine Bn ?_|refine Fm rfl ?_)|refine Bt ?_|refine Bu ?_)
 (conv=>whnf)
 refine Lp.mk (ι := Nat) (fun i => [(0, .hold .one [.s (.tag (u 0 0)) (mixR ((markDLargeS x k).map (DLarge.enc .own)) (x.map (DLarge.enc .own)) i)]), (1, .hold .one [I (k + (preDLargeS x i : Nat))]), (5, .hold .one [I (i : Nat)])]) (fun i => i ≤ x.length) (fun i => x.length - i) 0 ?_ (Nat.zero_le _) fun i hi => ?_
 ·rw [mix_zero, preDLargeS_zero]
  repeat' (first|exact trivial|rfl|exact And.intro rfl (And.intro (congrArg I (by omega)) trivial)|refine And.intro ?_ ?_)
 ·have hlen := (mix_len hml i).trans (show (x.map (DLarge.enc .own)).length = x.length by simp)
  by_cases hlt : i < x.length
  ·obtain ⟨y, hy⟩ : ∃ y, x[i]? = some y := ⟨_, List.getElem?_eq_getElem hlt⟩
   have hr := mix_get hml i (by simp; omega)
   rw [get_map hy] at hr
   have hm := markDLargeS_get x k i y hy
   have hps := preDLargeS_succ x i y hy
   have hpl := preDLargeS_le x (i + 1)
   rw [hps] at hpl
   simp only [DLarge.cnt] at hps hpl
   repeat' ((conv=>whnf);first|with_reducible (first|refine Lm ?_|refine Wm (by omega) ?_|refine dT (by omega) (fun h => ?_)|refine Ln.mk hlen ?_|refine Ix.nat hr ?_|refine Bn ?_|refine Fm rfl ?_)|refine Bt ?_|refine Bu ?_|refine Pu.one rfl rfl hr rfl (Nat.le_of_ble_eq_true rfl) rfl ?_|refine Pu.one rfl rfl (set_get hr) rfl (Nat.le_of_ble_eq_true rfl) rfl ?_|refine Pu.one rfl rfl (set_get (set_get hr)) rfl (Nat.le_of_ble_eq_true rfl) rfl ?_|refine Ix.nat (set_get hr) ?_|refine Ix.nat (set_get (set_get hr)) ?_|refine Nx.mk (i + 1) (by omega) (by omega) ?_)
   repeat' (first|exact trivial|rfl|exact And.intro rfl (And.intro (congrArg (C.s _) (by first|exact mix_set hml (get_map hm)|(simp only [List.set_set]; exact mix_set hml (get_map hm)))) trivial)|exact And.intro rfl (And.intro (congrArg I (by first|omega|(simp only [DLarge.cnt] at hps; omega))) trivial)|refine And.intro ?_ ?_)
  ·repeat' ((conv=>whnf);first|with_reducible (first|refine Lm ?_|refine Wm (by omega) ?_|refine dF (by omega) (fun h => ?_)|refine Ln.mk hlen ?_|refine Bn ?_|refine Fm rfl ?_)|refine Bt ?_|refine Bu ?_|refine FinM.mk rfl ?_ ?_)
   ·have he : i = x.length := by omega
    subst he
    exact congrArg (fun z => [I z]) (by rw [preDLargeS_all])
   ·rw [mix_end _ hml (by simp; omega)]
    repeat' (first | exact trivial | exact rfl | refine And.intro ?_ ?_)
theorem markObjS_ok (x : List DObj) (k : Int) (hs : smlDObjS x) (h0 : 0 ≤ k) (h1 : k + (cntDObjS x : Nat) ≤ 1099511627776) : CallsM Tryz.prog 60 false [.mut none (rDObjS .own x), .val none [I k]] [.mut none (rDObjS .own (markDObjS x k)), .val none []] .one [I (k + (cntDObjS x : Nat))] := by
 have hl : x.length ≤ 1048576 := hs.1
 have hml : ((markDObjS x k).map (DObj.enc .own)).length = (x.map (DObj.enc .own)).length := by simp [markDObjS_len]
 refine fnMOk (n := 41) (mo := []) (tb := []) [(0, 0), (0, 0)] Tryz.func60 (by kernel_rfl) rfl (by kernel_rfl) (by rfl) (by rfl) (.inr ⟨trivial, trivial⟩) fun u p => ?_
 repeat' ((conv=>whnf);first|with_reducible (first|refine Lm ?_|refine Wm (by omega) ?_|refine Bn ?_|refine Fm rfl ?_)|refine Bt ?_|refine Bu ?_)
 (conv=>whnf)
 refine Lp.mk (ι := Nat) (fun i => [(0, .hold .one [.s (.tag (u 0 0)) (mixR ((markDObjS x k).map (DObj.enc .own)) (x.map (DObj.enc .own)) i)]), (1, .hold .one [I (k + (preDObjS x i : Nat))]), (5, .hold .one [I (i : Nat)])]) (fun i => i ≤ x.length) (fun i => x.length - i) 0 ?_ (Nat.zero_le _) fun i hi => ?_
 ·rw [mix_zero, preDObjS_zero]
  repeat' (first|exact trivial|rfl|exact And.intro rfl (And.intro (congrArg I (by omega)) trivial)|refine And.intro ?_ ?_)
 ·have hlen := (mix_len hml i).trans (show (x.map (DObj.enc .own)).length = x.length by simp)
  by_cases hlt : i < x.length
  ·obtain ⟨y, hy⟩ : ∃ y, x[i]? = some y := ⟨_, List.getElem?_eq_getElem hlt⟩
   have hr := mix_get hml i (by simp; omega)
   rw [get_map hy] at hr
   have hm := markDObjS_get x k i y hy
   have hps := preDObjS_succ x i y hy
   have hpl := preDObjS_le x (i + 1)
   rw [hps] at hpl
   simp only [DObj.cnt] at hps hpl
   repeat' ((conv=>whnf);first|with_reducible (first|refine Lm ?_|refine Wm (by omega) ?_|refine dT (by omega) (fun h => ?_)|refine Ln.mk hlen ?_|refine Ix.nat hr ?_|refine Bn ?_|refine Fm rfl ?_)|refine Bt ?_|refine Bu ?_|refine Pu.one rfl rfl hr rfl (Nat.le_of_ble_eq_true rfl) rfl ?_|refine Pu.one rfl rfl (set_get hr) rfl (Nat.le_of_ble_eq_true rfl) rfl ?_|refine Pu.one rfl rfl (set_get (set_get hr)) rfl (Nat.le_of_ble_eq_true rfl) rfl ?_|refine Pu.one rfl rfl (set_get (set_get (set_get hr))) rfl (Nat.le_of_ble_eq_true rfl) rfl ?_|refine Ix.nat (set_get hr) ?_|refine Ix.nat (set_get (set_get hr)) ?_|refine Ix.nat (set_get (set_get (set_get hr))) ?_|refine Nx.mk (i + 1) (by omega) (by omega) ?_)
   repeat' (first|exact trivial|rfl|exact And.intro rfl (And.intro (congrArg (C.s _) (by first|exact mix_set hml (get_map hm)|(simp only [List.set_set]; exact mix_set hml (get_map hm)))) trivial)|exact And.intro rfl (And.intro (congrArg I (by first|omega|(simp only [DObj.cnt] at hps; omega))) trivial)|refine And.intro ?_ ?_)
  ·repeat' ((conv=>whnf);first|with_reducible (first|refine Lm ?_|refine Wm (by omega) ?_|refine dF (by omega) (fun h => ?_)|refine Ln.mk hlen ?_|refine Bn ?_|refine Fm rfl ?_)|refine Bt ?_|refine Bu ?_|refine FinM.mk rfl ?_ ?_)
   ·have he : i = x.length := by omega
    subst he
    exact congrArg (fun z => [I z]) (by rw [preDObjS_all])
   ·rw [mix_end _ hml (by simp; omega)]
    repeat' (first | exact trivial | exact rfl | refine And.intro ?_ ?_)
theorem markCacheS_ok (x : List DCache) (k : Int) (hs : smlDCacheS x) (h0 : 0 ≤ k) (h1 : k + (cntDCacheS x : Nat) ≤ 1099511627776) : CallsM Tryz.prog 61 false [.mut none (rDCacheS .own x), .val none [I k]] [.mut none (rDCacheS .own (markDCacheS x k)), .val none []] .one [I (k + (cntDCacheS x : Nat))] := by
 have hl : x.length ≤ 1048576 := hs.1
 have hml : ((markDCacheS x k).map (DCache.enc .own)).length = (x.map (DCache.enc .own)).length := by simp [markDCacheS_len]
 refine fnMOk (n := 20) (mo := [(155, [1, 0])]) (tb := []) [(0, 0), (0, 0)] Tryz.func61 (by kernel_rfl) rfl (by kernel_rfl) (by rfl) (by rfl) (.inr ⟨trivial, trivial⟩) fun u p => ?_
 repeat' ((conv=>whnf);first|with_reducible (first|refine Lm ?_|refine Wm (by omega) ?_|refine Bn ?_|refine Fm rfl ?_)|refine Bt ?_|refine Bu ?_)
 (conv=>whnf)
 refine Lp.mk (ι := Nat) (fun i => [(0, .hold .one [.s (.tag (u 0 0)) (mixR ((markDCacheS x k).map (DCache.enc .own)) (x.map (DCache.enc .own)) i)]), (1, .hold .one [I (k + (preDCacheS x i : Nat))]), (5, .hold .one [I (i : Nat)])]) (fun i => i ≤ x.length) (fun i => x.length - i) 0 ?_ (Nat.zero_le _) fun i hi => ?_
 ·rw [mix_zero, preDCacheS_zero]
  repeat' (first|exact trivial|rfl|exact And.intro rfl (And.intro (congrArg I (by omega)) trivial)|refine And.intro ?_ ?_)
 ·have hlen := (mix_len hml i).trans (show (x.map (DCache.enc .own)).length = x.length by simp)
  by_cases hlt : i < x.length
  ·obtain ⟨y, hy⟩ : ∃ y, x[i]? = some y := ⟨_, List.getElem?_eq_getElem hlt⟩
   have hr := mix_get hml i (by simp; omega)
   rw [get_map hy] at hr
   have hm := markDCacheS_get x k i y hy
   have hps := preDCacheS_succ x i y hy
   have hpl := preDCacheS_le x (i + 1)
   rw [hps] at hpl
   repeat' ((conv=>whnf);first|with_reducible (first|refine Lm ?_|refine Wm (by omega) ?_|refine dT (by omega) (fun h => ?_)|refine Ln.mk hlen ?_|refine Ix.nat hr ?_|refine Bn ?_|refine Fm rfl ?_)|refine Bt ?_|refine Bu ?_|refine Rw.one rfl hr rfl ?_|refine Lq.one rfl rfl hr rfl (Nat.le_refl _) rfl rfl ?_|refine ClM.mk (markIntSS_ok y.Lists _ (hs.2 y (List.mem_of_getElem? hy)) (by omega) (by simp only [DCache.cnt] at hpl; omega)) (.inl rfl) ?_|refine Pu.one rfl rfl (set_get hr) rfl (Nat.le_refl _) rfl ?_|refine Ix.nat (set_get hr) ?_|refine Nx.mk (i + 1) (by omega) (by omega) ?_)
   repeat' (first|exact trivial|rfl|exact And.intro rfl (And.intro (congrArg (C.s _) (by first|exact mix_set hml (get_map hm)|(simp only [List.set_set]; exact mix_set hml (get_map hm)))) trivial)|exact And.intro rfl (And.intro (congrArg I (by first|omega|(simp only [DCache.cnt] at hps; omega))) trivial)|refine And.intro ?_ ?_)
  ·repeat' ((conv=>whnf);first|with_reducible (first|refine Lm ?_|refine Wm (by omega) ?_|refine dF (by omega) (fun h => ?_)|refine Ln.mk hlen ?_|refine Bn ?_|refine Fm rfl ?_)|refine Bt ?_|refine Bu ?_|refine FinM.mk rfl ?_ ?_)
   ·have he : i = x.length := by omega
    subst he
    exact congrArg (fun z => [I z]) (by rw [preDCacheS_all])
   ·rw [mix_end _ hml (by simp; omega)]
    repeat' (first | exact trivial | exact rfl | refine And.intro ?_ ?_)
theorem markPostS_ok (x : List DPost) (k : Int) (hs : smlDPostS x) (h0 : 0 ≤ k) (h1 : k + (cntDPostS x : Nat) ≤ 1099511627776) : CallsM Tryz.prog 257 false [.mut none (rDPostS .own x), .val none [I k]] [.mut none (rDPostS .own (markDPostS x k)), .val none []] .one [I (k + (cntDPostS x : Nat))] := by
 have hl : x.length ≤ 1048576 := hs.1
 have hml : ((markDPostS x k).map (DPost.enc .own)).length = (x.map (DPost.enc .own)).length := by simp [markDPostS_len]
 refine fnMOk (n := 27) (mo := []) (tb := []) [(0, 0), (0, 0)] Tryz.func257 (by kernel_rfl) rfl (by kernel_rfl) (by rfl) (by rfl) (.inr ⟨trivial, trivial⟩) fun u p => ?_
 repeat' ((conv=>whnf);first|with_reducible (first|refine Lm ?_|refine Wm (by omega) ?_|refine Bn ?_|refine Fm rfl ?_)|refine Bt ?_|refine Bu ?_)
 (conv=>whnf)
 refine Lp.mk (ι := Nat) (fun i => [(0, .hold .one [.s (.tag (u 0 0)) (mixR ((markDPostS x k).map (DPost.enc .own)) (x.map (DPost.enc .own)) i)]), (1, .hold .one [I (k + (preDPostS x i : Nat))]), (5, .hold .one [I (i : Nat)])]) (fun i => i ≤ x.length) (fun i => x.length - i) 0 ?_ (Nat.zero_le _) fun i hi => ?_
 ·rw [mix_zero, preDPostS_zero]
  repeat' (first|exact trivial|rfl|exact And.intro rfl (And.intro (congrArg I (by omega)) trivial)|refine And.intro ?_ ?_)
 ·have hlen := (mix_len hml i).trans (show (x.map (DPost.enc .own)).length = x.length by simp)
  by_cases hlt : i < x.length
  ·obtain ⟨y, hy⟩ : ∃ y, x[i]? = some y := ⟨_, List.getElem?_eq_getElem hlt⟩
   have hr := mix_get hml i (by simp; omega)
   rw [get_map hy] at hr
   have hm := markDPostS_get x k i y hy
   have hps := preDPostS_succ x i y hy
   have hpl := preDPostS_le x (i + 1)
   rw [hps] at hpl
   simp only [DPost.cnt] at hps hpl
   repeat' ((conv=>whnf);first|with_reducible (first|refine Lm ?_|refine Wm (by omega) ?_|refine dT (by omega) (fun h => ?_)|refine Ln.mk hlen ?_|refine Ix.nat hr ?_|refine Bn ?_|refine Fm rfl ?_)|refine Bt ?_|refine Bu ?_|refine Pu.one rfl rfl hr rfl (Nat.le_of_ble_eq_true rfl) rfl ?_|refine Pu.one rfl rfl (set_get hr) rfl (Nat.le_of_ble_eq_true rfl) rfl ?_|refine Ix.nat (set_get hr) ?_|refine Nx.mk (i + 1) (by omega) (by omega) ?_)
   repeat' (first|exact trivial|rfl|exact And.intro rfl (And.intro (congrArg (C.s _) (by first|exact mix_set hml (get_map hm)|(simp only [List.set_set]; exact mix_set hml (get_map hm)))) trivial)|exact And.intro rfl (And.intro (congrArg I (by first|omega|(simp only [DPost.cnt] at hps; omega))) trivial)|refine And.intro ?_ ?_)
  ·repeat' ((conv=>whnf);first|with_reducible (first|refine Lm ?_|refine Wm (by omega) ?_|refine dF (by omega) (fun h => ?_)|refine Ln.mk hlen ?_|refine Bn ?_|refine Fm rfl ?_)|refine Bt ?_|refine Bu ?_|refine FinM.mk rfl ?_ ?_)
   ·have he : i = x.length := by omega
    subst he
    exact congrArg (fun z => [I z]) (by rw [preDPostS_all])
   ·rw [mix_end _ hml (by simp; omega)]
    repeat' (first | exact trivial | exact rfl | refine And.intro ?_ ?_)
theorem markPostSS_ok (x : List (List DPost)) (k : Int) (hs : smlDPostSS x) (h0 : 0 ≤ k) (h1 : k + (cntDPostSS x : Nat) ≤ 1099511627776) : CallsM Tryz.prog 156 false [.mut none (rDPostSS .own x), .val none [I k]] [.mut none (rDPostSS .own (markDPostSS x k)), .val none []] .one [I (k + (cntDPostSS x : Nat))] := by
 have hl : x.length ≤ 1048576 := hs.1
 have hml : ((markDPostSS x k).map (rDPostS .own)).length = (x.map (rDPostS .own)).length := by simp [markDPostSS_len]
 refine fnMOk (n := 19) (mo := [(257, [1, 0])]) (tb := []) [(0, 0), (0, 0)] Tryz.func156 (by kernel_rfl) rfl (by kernel_rfl) (by rfl) (by rfl) (.inr ⟨trivial, trivial⟩) fun u p => ?_
 repeat' ((conv=>whnf);first|with_reducible (first|refine Lm ?_|refine Wm (by omega) ?_|refine Bn ?_|refine Fm rfl ?_)|refine Bt ?_|refine Bu ?_)
 (conv=>whnf)
 refine Lp.mk (ι := Nat) (fun i => [(0, .hold .one [.s (.tag (u 0 0)) (mixR ((markDPostSS x k).map (rDPostS .own)) (x.map (rDPostS .own)) i)]), (1, .hold .one [I (k + (preDPostSS x i : Nat))]), (5, .hold .one [I (i : Nat)])]) (fun i => i ≤ x.length) (fun i => x.length - i) 0 ?_ (Nat.zero_le _) fun i hi => ?_
 ·rw [mix_zero, preDPostSS_zero]
  repeat' (first|exact trivial|rfl|exact And.intro rfl (And.intro (congrArg I (by omega)) trivial)|refine And.intro ?_ ?_)
 ·have hlen := (mix_len hml i).trans (show (x.map (rDPostS .own)).length = x.length by simp)
  by_cases hlt : i < x.length
  ·obtain ⟨y, hy⟩ : ∃ y, x[i]? = some y := ⟨_, List.getElem?_eq_getElem hlt⟩
   have hr := mix_get hml i (by simp; omega)
   rw [get_map hy] at hr
   have hm := markDPostSS_get x k i y hy
   have hps := preDPostSS_succ x i y hy
   have hpl := preDPostSS_le x (i + 1)
   rw [hps] at hpl
   repeat' ((conv=>whnf);first|with_reducible (first|refine Lm ?_|refine Wm (by omega) ?_|refine dT (by omega) (fun h => ?_)|refine Ln.mk hlen ?_|refine Ix.nat hr ?_|refine Bn ?_|refine Fm rfl ?_)|refine Bt ?_|refine Bu ?_|refine Rw.one rfl hr rfl ?_|refine Lq.one rfl rfl hr rfl (Nat.le_refl _) rfl rfl ?_|refine ClM.mk (markPostS_ok y _ (hs.2 y (List.mem_of_getElem? hy)) (by omega) (by omega)) (.inl rfl) ?_|refine Pu.one rfl rfl (set_get hr) rfl (Nat.le_refl _) rfl ?_|refine Ix.nat (set_get hr) ?_|refine Nx.mk (i + 1) (by omega) (by omega) ?_)
   repeat' (first|exact trivial|rfl|exact And.intro rfl (And.intro (congrArg (C.s _) (by first|exact mix_set hml (get_map hm)|(simp only [List.set_set]; exact mix_set hml (get_map hm)))) trivial)|exact And.intro rfl (And.intro (congrArg I (by omega)) trivial)|refine And.intro ?_ ?_)
  ·repeat' ((conv=>whnf);first|with_reducible (first|refine Lm ?_|refine Wm (by omega) ?_|refine dF (by omega) (fun h => ?_)|refine Ln.mk hlen ?_|refine Bn ?_|refine Fm rfl ?_)|refine Bt ?_|refine Bu ?_|refine FinM.mk rfl ?_ ?_)
   ·have he : i = x.length := by omega
    subst he
    exact congrArg (fun z => [I z]) (by rw [preDPostSS_all])
   ·rw [mix_end _ hml (by simp; omega)]
    repeat' (first | exact trivial | exact rfl | refine And.intro ?_ ?_)
theorem markMail_ok (x : DMail) (k : Int) (hs : DMail.sml x) (h0 : 0 ≤ k) (h1 : k + (DMail.cnt x : Nat) ≤ 1099511627776) : CallsM Tryz.prog 62 false [.mut (some 2) (DMail.enc .own x), .val none [I k]] [.mut (some 2) (DMail.enc .own (x.mark k)), .val none []] .one [I (k + (DMail.cnt x : Nat))] := by
 obtain ⟨s0, s1⟩ := hs
 unfold DMail.cnt at h1
 refine fnMOk (n := 14) (mo := [(156, [1, 0]), (155, [1, 0])]) (tb := []) [(2, 0), (0, 0)] Tryz.func62 (by kernel_rfl) rfl (by kernel_rfl) (by rfl) (by rfl) (.inr ⟨trivial, trivial⟩) fun u p => ?_
 repeat' ((conv=>whnf);first|with_reducible (first|refine Lm ?_|refine Wm (by omega) ?_|refine Bn ?_|refine Fm rfl ?_)|refine Bt ?_|refine Bu ?_|refine ClM.mk (markPostSS_ok x.Buffers _ s0 (by omega) (by omega)) (.inl rfl) ?_|refine ClM.mk (markIntSS_ok x.Inbox _ s1 (by omega) (by omega)) (.inl rfl) ?_|refine FinM.mk rfl ?_ ?_)
 ·exact congrArg (fun z => [I z]) (by unfold DMail.cnt; omega)
 ·repeat' (first | exact trivial | exact rfl | refine And.intro ?_ ?_)
theorem markStaleS_ok (x : List DStale) (k : Int) (hs : smlDStaleS x) (h0 : 0 ≤ k) (h1 : k + (cntDStaleS x : Nat) ≤ 1099511627776) : CallsM Tryz.prog 157 false [.mut none (rDStaleS .own x), .val none [I k]] [.mut none (rDStaleS .own (markDStaleS x k)), .val none []] .one [I (k + (cntDStaleS x : Nat))] := by
 have hl : x.length ≤ 1048576 := hs.1
 have hml : ((markDStaleS x k).map (DStale.enc .own)).length = (x.map (DStale.enc .own)).length := by simp [markDStaleS_len]
 refine fnMOk (n := 34) (mo := []) (tb := []) [(0, 0), (0, 0)] Tryz.func157 (by kernel_rfl) rfl (by kernel_rfl) (by rfl) (by rfl) (.inr ⟨trivial, trivial⟩) fun u p => ?_
 repeat' ((conv=>whnf);first|with_reducible (first|refine Lm ?_|refine Wm (by omega) ?_|refine Bn ?_|refine Fm rfl ?_)|refine Bt ?_|refine Bu ?_)
 (conv=>whnf)
 refine Lp.mk (ι := Nat) (fun i => [(0, .hold .one [.s (.tag (u 0 0)) (mixR ((markDStaleS x k).map (DStale.enc .own)) (x.map (DStale.enc .own)) i)]), (1, .hold .one [I (k + (preDStaleS x i : Nat))]), (5, .hold .one [I (i : Nat)])]) (fun i => i ≤ x.length) (fun i => x.length - i) 0 ?_ (Nat.zero_le _) fun i hi => ?_
 ·rw [mix_zero, preDStaleS_zero]
  repeat' (first|exact trivial|rfl|exact And.intro rfl (And.intro (congrArg I (by omega)) trivial)|refine And.intro ?_ ?_)
 ·have hlen := (mix_len hml i).trans (show (x.map (DStale.enc .own)).length = x.length by simp)
  by_cases hlt : i < x.length
  ·obtain ⟨y, hy⟩ : ∃ y, x[i]? = some y := ⟨_, List.getElem?_eq_getElem hlt⟩
   have hr := mix_get hml i (by simp; omega)
   rw [get_map hy] at hr
   have hm := markDStaleS_get x k i y hy
   have hps := preDStaleS_succ x i y hy
   have hpl := preDStaleS_le x (i + 1)
   rw [hps] at hpl
   simp only [DStale.cnt] at hps hpl
   repeat' ((conv=>whnf);first|with_reducible (first|refine Lm ?_|refine Wm (by omega) ?_|refine dT (by omega) (fun h => ?_)|refine Ln.mk hlen ?_|refine Ix.nat hr ?_|refine Bn ?_|refine Fm rfl ?_)|refine Bt ?_|refine Bu ?_|refine Pu.one rfl rfl hr rfl (Nat.le_of_ble_eq_true rfl) rfl ?_|refine Pu.one rfl rfl (set_get hr) rfl (Nat.le_of_ble_eq_true rfl) rfl ?_|refine Pu.one rfl rfl (set_get (set_get hr)) rfl (Nat.le_of_ble_eq_true rfl) rfl ?_|refine Ix.nat (set_get hr) ?_|refine Ix.nat (set_get (set_get hr)) ?_|refine Nx.mk (i + 1) (by omega) (by omega) ?_)
   repeat' (first|exact trivial|rfl|exact And.intro rfl (And.intro (congrArg (C.s _) (by first|exact mix_set hml (get_map hm)|(simp only [List.set_set]; exact mix_set hml (get_map hm)))) trivial)|exact And.intro rfl (And.intro (congrArg I (by first|omega|(simp only [DStale.cnt] at hps; omega))) trivial)|refine And.intro ?_ ?_)
  ·repeat' ((conv=>whnf);first|with_reducible (first|refine Lm ?_|refine Wm (by omega) ?_|refine dF (by omega) (fun h => ?_)|refine Ln.mk hlen ?_|refine Bn ?_|refine Fm rfl ?_)|refine Bt ?_|refine Bu ?_|refine FinM.mk rfl ?_ ?_)
   ·have he : i = x.length := by omega
    subst he
    exact congrArg (fun z => [I z]) (by rw [preDStaleS_all])
   ·rw [mix_end _ hml (by simp; omega)]
    repeat' (first | exact trivial | exact rfl | refine And.intro ?_ ?_)
theorem markQuar_ok (x : DQuar) (k : Int) (hs : DQuar.sml x) (h0 : 0 ≤ k) (h1 : k + (DQuar.cnt x : Nat) ≤ 1099511627776) : CallsM Tryz.prog 63 false [.mut (some 2) (DQuar.enc .own x), .val none [I k]] [.mut (some 2) (DQuar.enc .own (x.mark k)), .val none []] .one [I (k + (DQuar.cnt x : Nat))] := by
 have s0 := hs
 unfold DQuar.cnt at h1
 refine fnMOk (n := 10) (mo := [(157, [1, 0])]) (tb := []) [(2, 0), (0, 0)] Tryz.func63 (by kernel_rfl) rfl (by kernel_rfl) (by rfl) (by rfl) (.inr ⟨trivial, trivial⟩) fun u p => ?_
 repeat' ((conv=>whnf);first|with_reducible (first|refine Lm ?_|refine Wm (by omega) ?_|refine Bn ?_|refine Fm rfl ?_)|refine Bt ?_|refine Bu ?_|refine ClM.mk (markStaleS_ok x.Lst _ s0 (by omega) (by omega)) (.inl rfl) ?_|refine FinM.mk rfl ?_ ?_)
 ·exact congrArg (fun z => [I z]) (by unfold DQuar.cnt; omega)
 ·repeat' (first | exact trivial | exact rfl | refine And.intro ?_ ?_)
theorem markPlan_ok (x : DPlan) (k : Int) (hs : DPlan.sml x) (h0 : 0 ≤ k) (h1 : k + (DPlan.cnt x : Nat) ≤ 1099511627776) : CallsM Tryz.prog 158 false [.mut (some 3) (DPlan.enc .own x), .val none [I k]] [.mut (some 3) (DPlan.enc .own (x.mark k)), .val none []] .one [I (k + (DPlan.cnt x : Nat))] := by
 have s0 := hs
 unfold DPlan.cnt at h1
 refine fnMOk (n := 10) (mo := [(154, [1, 0])]) (tb := []) [(2, 0), (0, 0)] Tryz.func158 (by kernel_rfl) rfl (by kernel_rfl) (by rfl) (by rfl) (.inr ⟨trivial, trivial⟩) fun u p => ?_
 repeat' ((conv=>whnf);first|with_reducible (first|refine Lm ?_|refine Wm (by omega) ?_|refine Bn ?_|refine Fm rfl ?_)|refine Bt ?_|refine Bu ?_|refine ClM.mk (markIntS_ok x.Cells _ s0 (by omega) (by omega)) (.inl rfl) ?_|refine FinM.mk rfl ?_ ?_)
 ·exact congrArg (fun z => [I z]) (by unfold DPlan.cnt; omega)
 ·repeat' (first | exact trivial | exact rfl | refine And.intro ?_ ?_)
theorem markJob_ok (x : DJob) (k : Int) (hs : DJob.sml x) (h0 : 0 ≤ k) (h1 : k + (DJob.cnt x : Nat) ≤ 1099511627776) : CallsM Tryz.prog 64 false [.mut (some 5) (DJob.enc .own x), .val none [I k]] [.mut (some 5) (DJob.enc .own (x.mark k)), .val none []] .one [I (k + (DJob.cnt x : Nat))] := by
 have s0 := hs
 unfold DJob.cnt at h1
 refine fnMOk (n := 10) (mo := [(158, [1, 0])]) (tb := []) [(2, 0), (0, 0)] Tryz.func64 (by kernel_rfl) rfl (by kernel_rfl) (by rfl) (by rfl) (.inr ⟨trivial, trivial⟩) fun u p => ?_
 repeat' ((conv=>whnf);first|with_reducible (first|refine Lm ?_|refine Wm (by omega) ?_|refine Bn ?_|refine Fm rfl ?_)|refine Bt ?_|refine Bu ?_|refine ClM.mk (markPlan_ok x.Plan _ s0 (by omega) (by omega)) (.inl rfl) ?_|refine FinM.mk rfl ?_ ?_)
 ·exact congrArg (fun z => [I z]) (by unfold DJob.cnt; omega)
 ·repeat' (first | exact trivial | exact rfl | refine And.intro ?_ ?_)
theorem markHeap_ok (x : DHeap) (k : Int) (hs : DHeap.sml x) (h0 : 0 ≤ k) (h1 : k + (DHeap.cnt x : Nat) ≤ 1099511627776) : CallsM Tryz.prog 11 false [.mut (some 24) (DHeap.enc .own x), .val none [I k]] [.mut (some 24) (DHeap.enc .own (x.mark k)), .val none []] .one [I (k + (DHeap.cnt x : Nat))] := by
 obtain ⟨s0, s1, s2, s3, s4, s5, s6, s7, s8⟩ := hs
 unfold DHeap.cnt at h1
 refine fnMOk (n := 42) (mo := [(64, [1, 0]), (56, [1, 0]), (62, [1, 0]), (63, [1, 0]), (61, [1, 0]), (59, [1, 0]), (60, [1, 0]), (57, [1, 0]), (58, [1, 0])]) (tb := []) [(2, 0), (0, 0)] Tryz.func11 (by kernel_rfl) rfl (by kernel_rfl) (by rfl) (by rfl) (.inr ⟨trivial, trivial⟩) fun u p => ?_
 repeat' ((conv=>whnf);first|with_reducible (first|refine Lm ?_|refine Wm (by omega) ?_|refine Bn ?_|refine Fm rfl ?_)|refine Bt ?_|refine Bu ?_|refine ClM.mk (markKernel_ok x.Kernel _ s0 (by omega) (by omega)) (.inl rfl) ?_|refine ClM.mk (markRangeS_ok x.Free _ s1 (by omega) (by omega)) (.inl rfl) ?_|refine ClM.mk (markSpanS_ok x.Spans _ s2 (by omega) (by omega)) (.inl rfl) ?_|refine ClM.mk (markLargeS_ok x.Larges _ s3 (by omega) (by omega)) (.inl rfl) ?_|refine ClM.mk (markObjS_ok x.Objs _ s4 (by omega) (by omega)) (.inl rfl) ?_|refine ClM.mk (markCacheS_ok x.Caches _ s5 (by omega) (by omega)) (.inl rfl) ?_|refine ClM.mk (markMail_ok x.Mail _ s6 (by omega) (by omega)) (.inl rfl) ?_|refine ClM.mk (markQuar_ok x.Quar _ s7 (by omega) (by omega)) (.inl rfl) ?_|refine ClM.mk (markJob_ok x.Job _ s8 (by omega) (by omega)) (.inl rfl) ?_|refine FinM.mk rfl ?_ ?_)
 ·exact congrArg (fun z => [I z]) (by unfold DHeap.cnt; omega)
 ·repeat' (first | exact trivial | exact rfl | refine And.intro ?_ ?_)
end Go.Proofs.YtogajjgmcnjkbaaGreat.Ab
/- Contracts of the laws' generic functions (held). Printed by gen_con.py. No condition. -/
namespace Go.Proofs.YtogajjgmcnjkbaaGreat.Ab
open Go.RowKit
set_option maxRecDepth 20000
set_option maxHeartbeats 2000000

theorem heldIntS_ok (x : List Int) (k : Int) (hs : smlIntS x) (h0 : 0 ≤ k) (h1 : k + (cntIntS x : Nat) ≤ 1099511627776) : CallsA Tryz.prog 160 false [.val none (rIntS .imm (markIntS x k)), .val none [I k]] .one [I (k + (cntIntS x : Nat))] := by
 have hl : x.length ≤ 1048576 := hs
 have hln := markIntS_len x k
 unfold cntIntS at h1
 refine fO (n := 21) [] Tryz.func160 (by kernel_rfl) rfl (by kernel_rfl) (by rfl) (.inr ⟨trivial, trivial⟩) ?_
 repeat' ((conv=>whnf);first|with_reducible (first|refine Lm ?_|refine Wm (by omega) ?_|refine Bn ?_|refine Fm rfl ?_)|refine Bt ?_|refine Bu ?_)
 (conv=>whnf)
 refine Lp.mk (ι := Nat) (fun i => [(0, .hold .one (rIntS .imm (markIntS x k))), (1, .hold .one [I (k + (preIntS x i : Nat))]), (5, .hold .one [I (i : Nat)])]) (fun i => i ≤ x.length) (fun i => x.length - i) 0 ?_ (Nat.zero_le _) fun i hi => ?_
 ·repeat' (first|exact trivial|rfl|exact And.intro rfl (And.intro (congrArg I (by unfold preIntS; omega)) trivial)|refine And.intro ?_ ?_)
 ·by_cases hlt : i < x.length
  ·obtain ⟨y, hy⟩ : ∃ y, x[i]? = some y := ⟨_, List.getElem?_eq_getElem hlt⟩
   have hm := markIntS_get x k i hlt
   unfold preIntS
   repeat' ((conv=>whnf);first|with_reducible (first|refine Lm ?_|refine Wm (by omega) ?_|refine dT (by omega) (fun h => ?_)|refine Ix.nat (get_map hm) ?_|refine dF (by omega) (fun h => ?_)|refine nF (by omega) (fun h => ?_)|refine Bn ?_|refine Fm rfl ?_)|refine Bt ?_|refine Bu ?_|refine Nx.mk (i + 1) (by omega) (by omega) ?_)
   repeat' (first|exact trivial|rfl|exact And.intro rfl (And.intro (congrArg I (by first|omega|(unfold preIntS; omega))) trivial)|refine And.intro ?_ ?_)
  ·repeat' ((conv=>whnf);first|with_reducible (first|refine Lm ?_|refine Wm (by omega) ?_|refine dF (by omega) (fun h => ?_)|refine nF (by omega) (fun h => ?_)|refine Bn ?_|refine Fm rfl ?_)|refine Bt ?_|refine Bu ?_)
   have he : i = x.length := by omega
   subst he
   exact congrArg (fun z => [I z]) (by unfold preIntS cntIntS; rfl)
theorem heldIntSS_ok (x : List (List Int)) (k : Int) (hs : smlIntSS x) (h0 : 0 ≤ k) (h1 : k + (cntIntSS x : Nat) ≤ 1099511627776) : CallsA Tryz.prog 161 false [.val none (rIntSS .imm (markIntSS x k)), .val none [I k]] .one [I (k + (cntIntSS x : Nat))] := by
 have hl : x.length ≤ 1048576 := hs.1
 have hln := markIntSS_len x k
 refine fO (n := 21) [] Tryz.func161 (by kernel_rfl) rfl (by kernel_rfl) (by rfl) (.inr ⟨trivial, trivial⟩) ?_
 repeat' ((conv=>whnf);first|with_reducible (first|refine Lm ?_|refine Wm (by omega) ?_|refine Bn ?_|refine Fm rfl ?_)|refine Bt ?_|refine Bu ?_)
 (conv=>whnf)
 refine Lp.mk (ι := Nat) (fun i => [(0, .hold .one (rIntSS .imm (markIntSS x k))), (1, .hold .one [I (k + (preIntSS x i : Nat))]), (5, .hold .one [I (i : Nat)])]) (fun i => i ≤ x.length) (fun i => x.length - i) 0 ?_ (Nat.zero_le _) fun i hi => ?_
 ·rw [preIntSS_zero]
  repeat' (first|exact trivial|rfl|exact And.intro rfl (And.intro (congrArg I (by omega)) trivial)|refine And.intro ?_ ?_)
 ·by_cases hlt : i < x.length
  ·obtain ⟨y, hy⟩ : ∃ y, x[i]? = some y := ⟨_, List.getElem?_eq_getElem hlt⟩
   have hm := markIntSS_get x k i y hy
   have hps := preIntSS_succ x i y hy
   have hpl := preIntSS_le x (i + 1)
   rw [hps] at hpl
   repeat' ((conv=>whnf);first|with_reducible (first|refine Lm ?_|refine Wm (by omega) ?_|refine dT (by omega) (fun h => ?_)|refine Ix.nat (get_map hm) ?_|refine dF (by omega) (fun h => ?_)|refine nF (by omega) (fun h => ?_)|refine Bn ?_|refine Fm rfl ?_)|refine Bt ?_|refine Bu ?_|refine Cl.mk (heldIntS_ok y _ (hs.2 y (List.mem_of_getElem? hy)) (by omega) (by omega)) ?_|refine Nx.mk (i + 1) (by omega) (by omega) ?_)
   repeat' (first|exact trivial|rfl|exact And.intro rfl (And.intro (congrArg I (by omega)) trivial)|refine And.intro ?_ ?_)
  ·repeat' ((conv=>whnf);first|with_reducible (first|refine Lm ?_|refine Wm (by omega) ?_|refine dF (by omega) (fun h => ?_)|refine nF (by omega) (fun h => ?_)|refine Bn ?_|refine Fm rfl ?_)|refine Bt ?_|refine Bu ?_)
   have he : i = x.length := by omega
   subst he
   exact congrArg (fun z => [I z]) (by rw [preIntSS_all])
theorem heldBoolS_ok (x : List Bool) (k : Int) (hs : smlBoolS x) (h0 : 0 ≤ k) (h1 : k + (cntBoolS x : Nat) ≤ 1099511627776) : CallsA Tryz.prog 328 false [.val none (rBoolS .imm (markBoolS x k)), .val none [I k]] .one [I (k + (cntBoolS x : Nat))] := by
 have hl : x.length ≤ 1048576 := hs
 have hln := markBoolS_len x k
 unfold cntBoolS at h1
 refine fO (n := 23) [] Tryz.func328 (by kernel_rfl) rfl (by kernel_rfl) (by rfl) (.inr ⟨trivial, trivial⟩) ?_
 repeat' ((conv=>whnf);first|with_reducible (first|refine Lm ?_|refine Wm (by omega) ?_|refine Bn ?_|refine Fm rfl ?_)|refine Bt ?_|refine Bu ?_)
 (conv=>whnf)
 refine Lp.mk (ι := Nat) (fun i => [(0, .hold .one (rBoolS .imm (markBoolS x k))), (1, .hold .one [I (k + (preBoolS x i : Nat))]), (5, .hold .one [I (i : Nat)])]) (fun i => i ≤ x.length) (fun i => x.length - i) 0 ?_ (Nat.zero_le _) fun i hi => ?_
 ·repeat' (first|exact trivial|rfl|exact And.intro rfl (And.intro (congrArg I (by unfold preBoolS; omega)) trivial)|refine And.intro ?_ ?_)
 ·by_cases hlt : i < x.length
  ·obtain ⟨y, hy⟩ : ∃ y, x[i]? = some y := ⟨_, List.getElem?_eq_getElem hlt⟩
   have hm := markBoolS_get x k i hlt
   unfold preBoolS
   repeat' ((conv=>whnf);first|with_reducible (first|refine Lm ?_|refine Wm (by omega) ?_|refine dT (by omega) (fun h => ?_)|refine Ix.nat (get_map hm) ?_|refine dF (by omega) (fun h => ?_)|refine nF (by omega) (fun h => ?_)|refine Bn ?_|refine Fm rfl ?_)|refine Bt ?_|refine Bu ?_|refine Cd.mk (by decide) ?_|refine Ev.mk rfl ?_|refine Bf.f (by rw [bne_eq_false_iff_eq, Bool.eq_iff_iff]; simp) ?_|refine Nx.mk (i + 1) (by omega) (by omega) ?_)
   repeat' (first|exact trivial|rfl|exact And.intro rfl (And.intro (congrArg I (by first|omega|(unfold preBoolS; omega))) trivial)|refine And.intro ?_ ?_)
  ·repeat' ((conv=>whnf);first|with_reducible (first|refine Lm ?_|refine Wm (by omega) ?_|refine dF (by omega) (fun h => ?_)|refine nF (by omega) (fun h => ?_)|refine Bn ?_|refine Fm rfl ?_)|refine Bt ?_|refine Bu ?_)
   have he : i = x.length := by omega
   subst he
   exact congrArg (fun z => [I z]) (by unfold preBoolS cntBoolS; rfl)
theorem heldFrames_ok (x : DFrames) (k : Int) (hs : DFrames.sml x) (h0 : 0 ≤ k) (h1 : k + (DFrames.cnt x : Nat) ≤ 1099511627776) : CallsA Tryz.prog 258 false [.val (some 2) (DFrames.enc .imm (x.mark k)), .val none [I k]] .one [I (k + (DFrames.cnt x : Nat))] := by
 obtain ⟨s0, s1⟩ := hs
 unfold DFrames.cnt at h1
 refine fO (n := 18) [] Tryz.func258 (by kernel_rfl) rfl (by kernel_rfl) (by rfl) (.inr ⟨trivial, trivial⟩) ?_
 repeat' ((conv=>whnf);first|with_reducible (first|refine Lm ?_|refine Wm (by omega) ?_|refine dF (by omega) (fun h => ?_)|refine nF (by omega) (fun h => ?_)|refine Bn ?_|refine Fm rfl ?_)|refine Bt ?_|refine Bu ?_|refine Cl.mk (heldIntSS_ok x.Cells _ s0 (by omega) (by omega)) ?_|refine Cl.mk (heldBoolS_ok x.Used _ s1 (by omega) (by omega)) ?_)
 exact congrArg (fun z => [I z]) (by unfold DFrames.cnt; omega)
theorem heldEntryS_ok (x : List DEntry) (k : Int) (hs : smlDEntryS x) (h0 : 0 ≤ k) (h1 : k + (cntDEntryS x : Nat) ≤ 1099511627776) : CallsA Tryz.prog 329 false [.val none (rDEntryS .imm (markDEntryS x k)), .val none [I k]] .one [I (k + (cntDEntryS x : Nat))] := by
 have hl : x.length ≤ 1048576 := hs.1
 have hln := markDEntryS_len x k
 refine fO (n := 31) [] Tryz.func329 (by kernel_rfl) rfl (by kernel_rfl) (by rfl) (.inr ⟨trivial, trivial⟩) ?_
 repeat' ((conv=>whnf);first|with_reducible (first|refine Lm ?_|refine Wm (by omega) ?_|refine Bn ?_|refine Fm rfl ?_)|refine Bt ?_|refine Bu ?_)
 (conv=>whnf)
 refine Lp.mk (ι := Nat) (fun i => [(0, .hold .one (rDEntryS .imm (markDEntryS x k))), (1, .hold .one [I (k + (preDEntryS x i : Nat))]), (5, .hold .one [I (i : Nat)])]) (fun i => i ≤ x.length) (fun i => x.length - i) 0 ?_ (Nat.zero_le _) fun i hi => ?_
 ·rw [preDEntryS_zero]
  repeat' (first|exact trivial|rfl|exact And.intro rfl (And.intro (congrArg I (by omega)) trivial)|refine And.intro ?_ ?_)
 ·by_cases hlt : i < x.length
  ·obtain ⟨y, hy⟩ : ∃ y, x[i]? = some y := ⟨_, List.getElem?_eq_getElem hlt⟩
   have hm := markDEntryS_get x k i y hy
   have hps := preDEntryS_succ x i y hy
   have hpl := preDEntryS_le x (i + 1)
   rw [hps] at hpl
   simp only [DEntry.cnt] at hps hpl
   repeat' ((conv=>whnf);first|with_reducible (first|refine Lm ?_|refine Wm (by omega) ?_|refine dT (by omega) (fun h => ?_)|refine Ix.nat (get_map hm) ?_|refine dF (by omega) (fun h => ?_)|refine nF (by omega) (fun h => ?_)|refine Bn ?_|refine Fm rfl ?_)|refine Bt ?_|refine Bu ?_|refine Bf.N (fun h => absurd rfl h) (fun h => ?_)|refine Nx.mk (i + 1) (by omega) (by omega) ?_)
   repeat' (first|exact trivial|rfl|exact And.intro rfl (And.intro (congrArg I (by first|omega|(simp only [DEntry.cnt] at hps; omega))) trivial)|refine And.intro ?_ ?_)
  ·repeat' ((conv=>whnf);first|with_reducible (first|refine Lm ?_|refine Wm (by omega) ?_|refine dF (by omega) (fun h => ?_)|refine nF (by omega) (fun h => ?_)|refine Bn ?_|refine Fm rfl ?_)|refine Bt ?_|refine Bu ?_)
   have he : i = x.length := by omega
   subst he
   exact congrArg (fun z => [I z]) (by rw [preDEntryS_all])
theorem heldTable_ok (x : DTable) (k : Int) (hs : DTable.sml x) (h0 : 0 ≤ k) (h1 : k + (DTable.cnt x : Nat) ≤ 1099511627776) : CallsA Tryz.prog 259 false [.val (some 1) (DTable.enc .imm (x.mark k)), .val none [I k]] .one [I (k + (DTable.cnt x : Nat))] := by
 have s0 := hs
 unfold DTable.cnt at h1
 refine fO (n := 12) [] Tryz.func259 (by kernel_rfl) rfl (by kernel_rfl) (by rfl) (.inr ⟨trivial, trivial⟩) ?_
 repeat' ((conv=>whnf);first|with_reducible (first|refine Lm ?_|refine Wm (by omega) ?_|refine dF (by omega) (fun h => ?_)|refine nF (by omega) (fun h => ?_)|refine Bn ?_|refine Fm rfl ?_)|refine Bt ?_|refine Bu ?_|refine Cl.mk (heldEntryS_ok x.Entries _ s0 (by omega) (by omega)) ?_)
 exact congrArg (fun z => [I z]) (by unfold DTable.cnt; omega)
theorem heldMachine_ok (x : DMachine) (k : Int) (hs : DMachine.sml x) (h0 : 0 ≤ k) (h1 : k + (DMachine.cnt x : Nat) ≤ 1099511627776) : CallsA Tryz.prog 159 false [.val (some 3) (DMachine.enc .imm (x.mark k)), .val none [I k]] .one [I (k + (DMachine.cnt x : Nat))] := by
 obtain ⟨s0, s1⟩ := hs
 unfold DMachine.cnt at h1
 refine fO (n := 18) [] Tryz.func159 (by kernel_rfl) rfl (by kernel_rfl) (by rfl) (.inr ⟨trivial, trivial⟩) ?_
 repeat' ((conv=>whnf);first|with_reducible (first|refine Lm ?_|refine Wm (by omega) ?_|refine dF (by omega) (fun h => ?_)|refine nF (by omega) (fun h => ?_)|refine Bn ?_|refine Fm rfl ?_)|refine Bt ?_|refine Bu ?_|refine Cl.mk (heldFrames_ok x.Frames _ s0 (by omega) (by omega)) ?_|refine Cl.mk (heldTable_ok x.Table _ s1 (by omega) (by omega)) ?_)
 exact congrArg (fun z => [I z]) (by unfold DMachine.cnt; omega)
theorem heldKernel_ok (x : DKernel) (k : Int) (hs : DKernel.sml x) (h0 : 0 ≤ k) (h1 : k + (DKernel.cnt x : Nat) ≤ 1099511627776) : CallsA Tryz.prog 65 false [.val (some 5) (DKernel.enc .imm (x.mark k)), .val none [I k]] .one [I (k + (DKernel.cnt x : Nat))] := by
 obtain ⟨s0, s1⟩ := hs
 unfold DKernel.cnt at h1
 refine fO (n := 18) [] Tryz.func65 (by kernel_rfl) rfl (by kernel_rfl) (by rfl) (.inr ⟨trivial, trivial⟩) ?_
 repeat' ((conv=>whnf);first|with_reducible (first|refine Lm ?_|refine Wm (by omega) ?_|refine dF (by omega) (fun h => ?_)|refine nF (by omega) (fun h => ?_)|refine Bn ?_|refine Fm rfl ?_)|refine Bt ?_|refine Bu ?_|refine Cl.mk (heldMachine_ok x.Machine _ s0 (by omega) (by omega)) ?_|refine Cl.mk (heldIntS_ok x.Refuse _ s1 (by omega) (by omega)) ?_)
 exact congrArg (fun z => [I z]) (by unfold DKernel.cnt; omega)
end Go.Proofs.YtogajjgmcnjkbaaGreat.Ab
/- Contracts of the laws' generic functions (held, heaps). Printed by gen_con.py. -/
namespace Go.Proofs.YtogajjgmcnjkbaaGreat.Ab
open Go.RowKit
set_option maxRecDepth 20000
set_option maxHeartbeats 2000000

theorem heldRangeS_ok (x : List DRange) (k : Int) (hs : smlDRangeS x) (h0 : 0 ≤ k) (h1 : k + (cntDRangeS x : Nat) ≤ 1099511627776) : CallsA Tryz.prog 66 false [.val none (rDRangeS .imm (markDRangeS x k)), .val none [I k]] .one [I (k + (cntDRangeS x : Nat))] := by
 have hl : x.length ≤ 1048576 := hs.1
 have hln := markDRangeS_len x k
 refine fO (n := 31) [] Tryz.func66 (by kernel_rfl) rfl (by kernel_rfl) (by rfl) (.inr ⟨trivial, trivial⟩) ?_
 repeat' ((conv=>whnf);first|with_reducible (first|refine Lm ?_|refine Wm (by omega) ?_|refine Bn ?_|refine Fm rfl ?_)|refine Bt ?_|refine Bu ?_)
 (conv=>whnf)
 refine Lp.mk (ι := Nat) (fun i => [(0, .hold .one (rDRangeS .imm (markDRangeS x k))), (1, .hold .one [I (k + (preDRangeS x i : Nat))]), (5, .hold .one [I (i : Nat)])]) (fun i => i ≤ x.length) (fun i => x.length - i) 0 ?_ (Nat.zero_le _) fun i hi => ?_
 ·rw [preDRangeS_zero]
  repeat' (first|exact trivial|rfl|exact And.intro rfl (And.intro (congrArg I (by omega)) trivial)|refine And.intro ?_ ?_)
 ·by_cases hlt : i < x.length
  ·obtain ⟨y, hy⟩ : ∃ y, x[i]? = some y := ⟨_, List.getElem?_eq_getElem hlt⟩
   have hm := markDRangeS_get x k i y hy
   have hps := preDRangeS_succ x i y hy
   have hpl := preDRangeS_le x (i + 1)
   rw [hps] at hpl
   simp only [DRange.cnt] at hps hpl
   repeat' ((conv=>whnf);first|with_reducible (first|refine Lm ?_|refine Wm (by omega) ?_|refine dT (by omega) (fun h => ?_)|refine Ix.nat (get_map hm) ?_|refine dF (by omega) (fun h => ?_)|refine nF (by omega) (fun h => ?_)|refine Bn ?_|refine Fm rfl ?_)|refine Bt ?_|refine Bu ?_|refine Bf.N (fun h => absurd rfl h) (fun h => ?_)|refine Nx.mk (i + 1) (by omega) (by omega) ?_)
   repeat' (first|exact trivial|rfl|exact And.intro rfl (And.intro (congrArg I (by first|omega|(simp only [DRange.cnt] at hps; omega))) trivial)|refine And.intro ?_ ?_)
  ·repeat' ((conv=>whnf);first|with_reducible (first|refine Lm ?_|refine Wm (by omega) ?_|refine dF (by omega) (fun h => ?_)|refine nF (by omega) (fun h => ?_)|refine Bn ?_|refine Fm rfl ?_)|refine Bt ?_|refine Bu ?_)
   have he : i = x.length := by omega
   subst he
   exact congrArg (fun z => [I z]) (by rw [preDRangeS_all])
theorem heldSpanS_ok (x : List DSpan) (k : Int) (hs : smlDSpanS x) (h0 : 0 ≤ k) (h1 : k + (cntDSpanS x : Nat) ≤ 1099511627776) : CallsA Tryz.prog 67 false [.val none (rDSpanS .imm (markDSpanS x k)), .val none [I k]] .one [I (k + (cntDSpanS x : Nat))] := by
 have hl : x.length ≤ 1048576 := hs.1
 have hln := markDSpanS_len x k
 refine fO (n := 40) [] Tryz.func67 (by kernel_rfl) rfl (by kernel_rfl) (by rfl) (.inr ⟨trivial, trivial⟩) ?_
 repeat' ((conv=>whnf);first|with_reducible (first|refine Lm ?_|refine Wm (by omega) ?_|refine Bn ?_|refine Fm rfl ?_)|refine Bt ?_|refine Bu ?_)
 (conv=>whnf)
 refine Lp.mk (ι := Nat) (fun i => [(0, .hold .one (rDSpanS .imm (markDSpanS x k))), (1, .hold .one [I (k + (preDSpanS x i : Nat))]), (5, .hold .one [I (i : Nat)])]) (fun i => i ≤ x.length) (fun i => x.length - i) 0 ?_ (Nat.zero_le _) fun i hi => ?_
 ·rw [preDSpanS_zero]
  repeat' (first|exact trivial|rfl|exact And.intro rfl (And.intro (congrArg I (by omega)) trivial)|refine And.intro ?_ ?_)
 ·by_cases hlt : i < x.length
  ·obtain ⟨y, hy⟩ : ∃ y, x[i]? = some y := ⟨_, List.getElem?_eq_getElem hlt⟩
   have hm := markDSpanS_get x k i y hy
   have hps := preDSpanS_succ x i y hy
   have hpl := preDSpanS_le x (i + 1)
   rw [hps] at hpl
   simp only [DSpan.cnt] at hps hpl
   repeat' ((conv=>whnf);first|with_reducible (first|refine Lm ?_|refine Wm (by omega) ?_|refine dT (by omega) (fun h => ?_)|refine Ix.nat (get_map hm) ?_|refine dF (by omega) (fun h => ?_)|refine nF (by omega) (fun h => ?_)|refine Bn ?_|refine Fm rfl ?_)|refine Bt ?_|refine Bu ?_|refine Bf.N (fun h => absurd rfl h) (fun h => ?_)|refine Nx.mk (i + 1) (by omega) (by omega) ?_)
   repeat' (first|exact trivial|rfl|exact And.intro rfl (And.intro (congrArg I (by first|omega|(simp only [DSpan.cnt] at hps; omega))) trivial)|refine And.intro ?_ ?_)
  ·repeat' ((conv=>whnf);first|with_reducible (first|refine Lm ?_|refine Wm (by omega) ?_|refine dF (by omega) (fun h => ?_)|refine nF (by omega) (fun h => ?_)|refine Bn ?_|refine Fm rfl ?_)|refine Bt ?_|refine Bu ?_)
   have he : i = x.length := by omega
   subst he
   exact congrArg (fun z => [I z]) (by rw [preDSpanS_all])
theorem heldLargeS_ok (x : List DLarge) (k : Int) (hs : smlDLargeS x) (h0 : 0 ≤ k) (h1 : k + (cntDLargeS x : Nat) ≤ 1099511627776) : CallsA Tryz.prog 68 false [.val none (rDLargeS .imm (markDLargeS x k)), .val none [I k]] .one [I (k + (cntDLargeS x : Nat))] := by
 have hl : x.length ≤ 1048576 := hs.1
 have hln := markDLargeS_len x k
 refine fO (n := 40) [] Tryz.func68 (by kernel_rfl) rfl (by kernel_rfl) (by rfl) (.inr ⟨trivial, trivial⟩) ?_
 repeat' ((conv=>whnf);first|with_reducible (first|refine Lm ?_|refine Wm (by omega) ?_|refine Bn ?_|refine Fm rfl ?_)|refine Bt ?_|refine Bu ?_)
 (conv=>whnf)
 refine Lp.mk (ι := Nat) (fun i => [(0, .hold .one (rDLargeS .imm (markDLargeS x k))), (1, .hold .one [I (k + (preDLargeS x i : Nat))]), (5, .hold .one [I (i : Nat)])]) (fun i => i ≤ x.length) (fun i => x.length - i) 0 ?_ (Nat.zero_le _) fun i hi => ?_
 ·rw [preDLargeS_zero]
  repeat' (first|exact trivial|rfl|exact And.intro rfl (And.intro (congrArg I (by omega)) trivial)|refine And.intro ?_ ?_)
 ·by_cases hlt : i < x.length
  ·obtain ⟨y, hy⟩ : ∃ y, x[i]? = some y := ⟨_, List.getElem?_eq_getElem hlt⟩
   have hm := markDLargeS_get x k i y hy
   have hps := preDLargeS_succ x i y hy
   have hpl := preDLargeS_le x (i + 1)
   rw [hps] at hpl
   simp only [DLarge.cnt] at hps hpl
   repeat' ((conv=>whnf);first|with_reducible (first|refine Lm ?_|refine Wm (by omega) ?_|refine dT (by omega) (fun h => ?_)|refine Ix.nat (get_map hm) ?_|refine dF (by omega) (fun h => ?_)|refine nF (by omega) (fun h => ?_)|refine Bn ?_|refine Fm rfl ?_)|refine Bt ?_|refine Bu ?_|refine Bf.N (fun h => absurd rfl h) (fun h => ?_)|refine Nx.mk (i + 1) (by omega) (by omega) ?_)
   repeat' (first|exact trivial|rfl|exact And.intro rfl (And.intro (congrArg I (by first|omega|(simp only [DLarge.cnt] at hps; omega))) trivial)|refine And.intro ?_ ?_)
  ·repeat' ((conv=>whnf);first|with_reducible (first|refine Lm ?_|refine Wm (by omega) ?_|refine dF (by omega) (fun h => ?_)|refine nF (by omega) (fun h => ?_)|refine Bn ?_|refine Fm rfl ?_)|refine Bt ?_|refine Bu ?_)
   have he : i = x.length := by omega
   subst he
   exact congrArg (fun z => [I z]) (by rw [preDLargeS_all])
theorem heldObjS_ok (x : List DObj) (k : Int) (hs : smlDObjS x) (h0 : 0 ≤ k) (h1 : k + (cntDObjS x : Nat) ≤ 1099511627776) : CallsA Tryz.prog 69 false [.val none (rDObjS .imm (markDObjS x k)), .val none [I k]] .one [I (k + (cntDObjS x : Nat))] := by
 have hl : x.length ≤ 1048576 := hs.1
 have hln := markDObjS_len x k
 refine fO (n := 49) [] Tryz.func69 (by kernel_rfl) rfl (by kernel_rfl) (by rfl) (.inr ⟨trivial, trivial⟩) ?_
 repeat' ((conv=>whnf);first|with_reducible (first|refine Lm ?_|refine Wm (by omega) ?_|refine Bn ?_|refine Fm rfl ?_)|refine Bt ?_|refine Bu ?_)
 (conv=>whnf)
 refine Lp.mk (ι := Nat) (fun i => [(0, .hold .one (rDObjS .imm (markDObjS x k))), (1, .hold .one [I (k + (preDObjS x i : Nat))]), (5, .hold .one [I (i : Nat)])]) (fun i => i ≤ x.length) (fun i => x.length - i) 0 ?_ (Nat.zero_le _) fun i hi => ?_
 ·rw [preDObjS_zero]
  repeat' (first|exact trivial|rfl|exact And.intro rfl (And.intro (congrArg I (by omega)) trivial)|refine And.intro ?_ ?_)
 ·by_cases hlt : i < x.length
  ·obtain ⟨y, hy⟩ : ∃ y, x[i]? = some y := ⟨_, List.getElem?_eq_getElem hlt⟩
   have hm := markDObjS_get x k i y hy
   have hps := preDObjS_succ x i y hy
   have hpl := preDObjS_le x (i + 1)
   rw [hps] at hpl
   simp only [DObj.cnt] at hps hpl
   repeat' ((conv=>whnf);first|with_reducible (first|refine Lm ?_|refine Wm (by omega) ?_|refine dT (by omega) (fun h => ?_)|refine Ix.nat (get_map hm) ?_|refine dF (by omega) (fun h => ?_)|refine nF (by omega) (fun h => ?_)|refine Bn ?_|refine Fm rfl ?_)|refine Bt ?_|refine Bu ?_|refine Bf.N (fun h => absurd rfl h) (fun h => ?_)|refine Nx.mk (i + 1) (by omega) (by omega) ?_)
   repeat' (first|exact trivial|rfl|exact And.intro rfl (And.intro (congrArg I (by first|omega|(simp only [DObj.cnt] at hps; omega))) trivial)|refine And.intro ?_ ?_)
  ·repeat' ((conv=>whnf);first|with_reducible (first|refine Lm ?_|refine Wm (by omega) ?_|refine dF (by omega) (fun h => ?_)|refine nF (by omega) (fun h => ?_)|refine Bn ?_|refine Fm rfl ?_)|refine Bt ?_|refine Bu ?_)
   have he : i = x.length := by omega
   subst he
   exact congrArg (fun z => [I z]) (by rw [preDObjS_all])
theorem heldCacheS_ok (x : List DCache) (k : Int) (hs : smlDCacheS x) (h0 : 0 ≤ k) (h1 : k + (cntDCacheS x : Nat) ≤ 1099511627776) : CallsA Tryz.prog 70 false [.val none (rDCacheS .imm (markDCacheS x k)), .val none [I k]] .one [I (k + (cntDCacheS x : Nat))] := by
 have hl : x.length ≤ 1048576 := hs.1
 have hln := markDCacheS_len x k
 refine fO (n := 22) [] Tryz.func70 (by kernel_rfl) rfl (by kernel_rfl) (by rfl) (.inr ⟨trivial, trivial⟩) ?_
 repeat' ((conv=>whnf);first|with_reducible (first|refine Lm ?_|refine Wm (by omega) ?_|refine Bn ?_|refine Fm rfl ?_)|refine Bt ?_|refine Bu ?_)
 (conv=>whnf)
 refine Lp.mk (ι := Nat) (fun i => [(0, .hold .one (rDCacheS .imm (markDCacheS x k))), (1, .hold .one [I (k + (preDCacheS x i : Nat))]), (5, .hold .one [I (i : Nat)])]) (fun i => i ≤ x.length) (fun i => x.length - i) 0 ?_ (Nat.zero_le _) fun i hi => ?_
 ·rw [preDCacheS_zero]
  repeat' (first|exact trivial|rfl|exact And.intro rfl (And.intro (congrArg I (by omega)) trivial)|refine And.intro ?_ ?_)
 ·by_cases hlt : i < x.length
  ·obtain ⟨y, hy⟩ : ∃ y, x[i]? = some y := ⟨_, List.getElem?_eq_getElem hlt⟩
   have hm := markDCacheS_get x k i y hy
   have hps := preDCacheS_succ x i y hy
   have hpl := preDCacheS_le x (i + 1)
   rw [hps] at hpl
   repeat' ((conv=>whnf);first|with_reducible (first|refine Lm ?_|refine Wm (by omega) ?_|refine dT (by omega) (fun h => ?_)|refine Ix.nat (get_map hm) ?_|refine dF (by omega) (fun h => ?_)|refine nF (by omega) (fun h => ?_)|refine Bn ?_|refine Fm rfl ?_)|refine Bt ?_|refine Bu ?_|refine Cl.mk (heldIntSS_ok y.Lists _ (hs.2 y (List.mem_of_getElem? hy)) (by omega) (by simp only [DCache.cnt] at hpl; omega)) ?_|refine Nx.mk (i + 1) (by omega) (by omega) ?_)
   repeat' (first|exact trivial|rfl|exact And.intro rfl (And.intro (congrArg I (by first|omega|(simp only [DCache.cnt] at hps; omega))) trivial)|refine And.intro ?_ ?_)
  ·repeat' ((conv=>whnf);first|with_reducible (first|refine Lm ?_|refine Wm (by omega) ?_|refine dF (by omega) (fun h => ?_)|refine nF (by omega) (fun h => ?_)|refine Bn ?_|refine Fm rfl ?_)|refine Bt ?_|refine Bu ?_)
   have he : i = x.length := by omega
   subst he
   exact congrArg (fun z => [I z]) (by rw [preDCacheS_all])
theorem heldPostS_ok (x : List DPost) (k : Int) (hs : smlDPostS x) (h0 : 0 ≤ k) (h1 : k + (cntDPostS x : Nat) ≤ 1099511627776) : CallsA Tryz.prog 260 false [.val none (rDPostS .imm (markDPostS x k)), .val none [I k]] .one [I (k + (cntDPostS x : Nat))] := by
 have hl : x.length ≤ 1048576 := hs.1
 have hln := markDPostS_len x k
 refine fO (n := 31) [] Tryz.func260 (by kernel_rfl) rfl (by kernel_rfl) (by rfl) (.inr ⟨trivial, trivial⟩) ?_
 repeat' ((conv=>whnf);first|with_reducible (first|refine Lm ?_|refine Wm (by omega) ?_|refine Bn ?_|refine Fm rfl ?_)|refine Bt ?_|refine Bu ?_)
 (conv=>whnf)
 refine Lp.mk (ι := Nat) (fun i => [(0, .hold .one (rDPostS .imm (markDPostS x k))), (1, .hold .one [I (k + (preDPostS x i : Nat))]), (5, .hold .one [I (i : Nat)])]) (fun i => i ≤ x.length) (fun i => x.length - i) 0 ?_ (Nat.zero_le _) fun i hi => ?_
 ·rw [preDPostS_zero]
  repeat' (first|exact trivial|rfl|exact And.intro rfl (And.intro (congrArg I (by omega)) trivial)|refine And.intro ?_ ?_)
 ·by_cases hlt : i < x.length
  ·obtain ⟨y, hy⟩ : ∃ y, x[i]? = some y := ⟨_, List.getElem?_eq_getElem hlt⟩
   have hm := markDPostS_get x k i y hy
   have hps := preDPostS_succ x i y hy
   have hpl := preDPostS_le x (i + 1)
   rw [hps] at hpl
   simp only [DPost.cnt] at hps hpl
   repeat' ((conv=>whnf);first|with_reducible (first|refine Lm ?_|refine Wm (by omega) ?_|refine dT (by omega) (fun h => ?_)|refine Ix.nat (get_map hm) ?_|refine dF (by omega) (fun h => ?_)|refine nF (by omega) (fun h => ?_)|refine Bn ?_|refine Fm rfl ?_)|refine Bt ?_|refine Bu ?_|refine Bf.N (fun h => absurd rfl h) (fun h => ?_)|refine Nx.mk (i + 1) (by omega) (by omega) ?_)
   repeat' (first|exact trivial|rfl|exact And.intro rfl (And.intro (congrArg I (by first|omega|(simp only [DPost.cnt] at hps; omega))) trivial)|refine And.intro ?_ ?_)
  ·repeat' ((conv=>whnf);first|with_reducible (first|refine Lm ?_|refine Wm (by omega) ?_|refine dF (by omega) (fun h => ?_)|refine nF (by omega) (fun h => ?_)|refine Bn ?_|refine Fm rfl ?_)|refine Bt ?_|refine Bu ?_)
   have he : i = x.length := by omega
   subst he
   exact congrArg (fun z => [I z]) (by rw [preDPostS_all])
theorem heldPostSS_ok (x : List (List DPost)) (k : Int) (hs : smlDPostSS x) (h0 : 0 ≤ k) (h1 : k + (cntDPostSS x : Nat) ≤ 1099511627776) : CallsA Tryz.prog 162 false [.val none (rDPostSS .imm (markDPostSS x k)), .val none [I k]] .one [I (k + (cntDPostSS x : Nat))] := by
 have hl : x.length ≤ 1048576 := hs.1
 have hln := markDPostSS_len x k
 refine fO (n := 21) [] Tryz.func162 (by kernel_rfl) rfl (by kernel_rfl) (by rfl) (.inr ⟨trivial, trivial⟩) ?_
 repeat' ((conv=>whnf);first|with_reducible (first|refine Lm ?_|refine Wm (by omega) ?_|refine Bn ?_|refine Fm rfl ?_)|refine Bt ?_|refine Bu ?_)
 (conv=>whnf)
 refine Lp.mk (ι := Nat) (fun i => [(0, .hold .one (rDPostSS .imm (markDPostSS x k))), (1, .hold .one [I (k + (preDPostSS x i : Nat))]), (5, .hold .one [I (i : Nat)])]) (fun i => i ≤ x.length) (fun i => x.length - i) 0 ?_ (Nat.zero_le _) fun i hi => ?_
 ·rw [preDPostSS_zero]
  repeat' (first|exact trivial|rfl|exact And.intro rfl (And.intro (congrArg I (by omega)) trivial)|refine And.intro ?_ ?_)
 ·by_cases hlt : i < x.length
  ·obtain ⟨y, hy⟩ : ∃ y, x[i]? = some y := ⟨_, List.getElem?_eq_getElem hlt⟩
   have hm := markDPostSS_get x k i y hy
   have hps := preDPostSS_succ x i y hy
   have hpl := preDPostSS_le x (i + 1)
   rw [hps] at hpl
   repeat' ((conv=>whnf);first|with_reducible (first|refine Lm ?_|refine Wm (by omega) ?_|refine dT (by omega) (fun h => ?_)|refine Ix.nat (get_map hm) ?_|refine dF (by omega) (fun h => ?_)|refine nF (by omega) (fun h => ?_)|refine Bn ?_|refine Fm rfl ?_)|refine Bt ?_|refine Bu ?_|refine Cl.mk (heldPostS_ok y _ (hs.2 y (List.mem_of_getElem? hy)) (by omega) (by omega)) ?_|refine Nx.mk (i + 1) (by omega) (by omega) ?_)
   repeat' (first|exact trivial|rfl|exact And.intro rfl (And.intro (congrArg I (by omega)) trivial)|refine And.intro ?_ ?_)
  ·repeat' ((conv=>whnf);first|with_reducible (first|refine Lm ?_|refine Wm (by omega) ?_|refine dF (by omega) (fun h => ?_)|refine nF (by omega) (fun h => ?_)|refine Bn ?_|refine Fm rfl ?_)|refine Bt ?_|refine Bu ?_)
   have he : i = x.length := by omega
   subst he
   exact congrArg (fun z => [I z]) (by rw [preDPostSS_all])
theorem heldMail_ok (x : DMail) (k : Int) (hs : DMail.sml x) (h0 : 0 ≤ k) (h1 : k + (DMail.cnt x : Nat) ≤ 1099511627776) : CallsA Tryz.prog 71 false [.val (some 2) (DMail.enc .imm (x.mark k)), .val none [I k]] .one [I (k + (DMail.cnt x : Nat))] := by
 obtain ⟨s0, s1⟩ := hs
 unfold DMail.cnt at h1
 refine fO (n := 18) [] Tryz.func71 (by kernel_rfl) rfl (by kernel_rfl) (by rfl) (.inr ⟨trivial, trivial⟩) ?_
 repeat' ((conv=>whnf);first|with_reducible (first|refine Lm ?_|refine Wm (by omega) ?_|refine dF (by omega) (fun h => ?_)|refine nF (by omega) (fun h => ?_)|refine Bn ?_|refine Fm rfl ?_)|refine Bt ?_|refine Bu ?_|refine Cl.mk (heldPostSS_ok x.Buffers _ s0 (by omega) (by omega)) ?_|refine Cl.mk (heldIntSS_ok x.Inbox _ s1 (by omega) (by omega)) ?_)
 exact congrArg (fun z => [I z]) (by unfold DMail.cnt; omega)
theorem heldStaleS_ok (x : List DStale) (k : Int) (hs : smlDStaleS x) (h0 : 0 ≤ k) (h1 : k + (cntDStaleS x : Nat) ≤ 1099511627776) : CallsA Tryz.prog 163 false [.val none (rDStaleS .imm (markDStaleS x k)), .val none [I k]] .one [I (k + (cntDStaleS x : Nat))] := by
 have hl : x.length ≤ 1048576 := hs.1
 have hln := markDStaleS_len x k
 refine fO (n := 40) [] Tryz.func163 (by kernel_rfl) rfl (by kernel_rfl) (by rfl) (.inr ⟨trivial, trivial⟩) ?_
 repeat' ((conv=>whnf);first|with_reducible (first|refine Lm ?_|refine Wm (by omega) ?_|refine Bn ?_|refine Fm rfl ?_)|refine Bt ?_|refine Bu ?_)
 (conv=>whnf)
 refine Lp.mk (ι := Nat) (fun i => [(0, .hold .one (rDStaleS .imm (markDStaleS x k))), (1, .hold .one [I (k + (preDStaleS x i : Nat))]), (5, .hold .one [I (i : Nat)])]) (fun i => i ≤ x.length) (fun i => x.length - i) 0 ?_ (Nat.zero_le _) fun i hi => ?_
 ·rw [preDStaleS_zero]
  repeat' (first|exact trivial|rfl|exact And.intro rfl (And.intro (congrArg I (by omega)) trivial)|refine And.intro ?_ ?_)
 ·by_cases hlt : i < x.length
  ·obtain ⟨y, hy⟩ : ∃ y, x[i]? = some y := ⟨_, List.getElem?_eq_getElem hlt⟩
   have hm := markDStaleS_get x k i y hy
   have hps := preDStaleS_succ x i y hy
   have hpl := preDStaleS_le x (i + 1)
   rw [hps] at hpl
   simp only [DStale.cnt] at hps hpl
   repeat' ((conv=>whnf);first|with_reducible (first|refine Lm ?_|refine Wm (by omega) ?_|refine dT (by omega) (fun h => ?_)|refine Ix.nat (get_map hm) ?_|refine dF (by omega) (fun h => ?_)|refine nF (by omega) (fun h => ?_)|refine Bn ?_|refine Fm rfl ?_)|refine Bt ?_|refine Bu ?_|refine Bf.N (fun h => absurd rfl h) (fun h => ?_)|refine Nx.mk (i + 1) (by omega) (by omega) ?_)
   repeat' (first|exact trivial|rfl|exact And.intro rfl (And.intro (congrArg I (by first|omega|(simp only [DStale.cnt] at hps; omega))) trivial)|refine And.intro ?_ ?_)
  ·repeat' ((conv=>whnf);first|with_reducible (first|refine Lm ?_|refine Wm (by omega) ?_|refine dF (by omega) (fun h => ?_)|refine nF (by omega) (fun h => ?_)|refine Bn ?_|refine Fm rfl ?_)|refine Bt ?_|refine Bu ?_)
   have he : i = x.length := by omega
   subst he
   exact congrArg (fun z => [I z]) (by rw [preDStaleS_all])
theorem heldQuar_ok (x : DQuar) (k : Int) (hs : DQuar.sml x) (h0 : 0 ≤ k) (h1 : k + (DQuar.cnt x : Nat) ≤ 1099511627776) : CallsA Tryz.prog 72 false [.val (some 2) (DQuar.enc .imm (x.mark k)), .val none [I k]] .one [I (k + (DQuar.cnt x : Nat))] := by
 have s0 := hs
 unfold DQuar.cnt at h1
 refine fO (n := 12) [] Tryz.func72 (by kernel_rfl) rfl (by kernel_rfl) (by rfl) (.inr ⟨trivial, trivial⟩) ?_
 repeat' ((conv=>whnf);first|with_reducible (first|refine Lm ?_|refine Wm (by omega) ?_|refine dF (by omega) (fun h => ?_)|refine nF (by omega) (fun h => ?_)|refine Bn ?_|refine Fm rfl ?_)|refine Bt ?_|refine Bu ?_|refine Cl.mk (heldStaleS_ok x.Lst _ s0 (by omega) (by omega)) ?_)
 exact congrArg (fun z => [I z]) (by unfold DQuar.cnt; omega)
theorem heldPlan_ok (x : DPlan) (k : Int) (hs : DPlan.sml x) (h0 : 0 ≤ k) (h1 : k + (DPlan.cnt x : Nat) ≤ 1099511627776) : CallsA Tryz.prog 164 false [.val (some 3) (DPlan.enc .imm (x.mark k)), .val none [I k]] .one [I (k + (DPlan.cnt x : Nat))] := by
 have s0 := hs
 unfold DPlan.cnt at h1
 refine fO (n := 12) [] Tryz.func164 (by kernel_rfl) rfl (by kernel_rfl) (by rfl) (.inr ⟨trivial, trivial⟩) ?_
 repeat' ((conv=>whnf);first|with_reducible (first|refine Lm ?_|refine Wm (by omega) ?_|refine dF (by omega) (fun h => ?_)|refine nF (by omega) (fun h => ?_)|refine Bn ?_|refine Fm rfl ?_)|refine Bt ?_|refine Bu ?_|refine Cl.mk (heldIntS_ok x.Cells _ s0 (by omega) (by omega)) ?_)
 exact congrArg (fun z => [I z]) (by unfold DPlan.cnt; omega)
theorem heldJob_ok (x : DJob) (k : Int) (hs : DJob.sml x) (h0 : 0 ≤ k) (h1 : k + (DJob.cnt x : Nat) ≤ 1099511627776) : CallsA Tryz.prog 73 false [.val (some 5) (DJob.enc .imm (x.mark k)), .val none [I k]] .one [I (k + (DJob.cnt x : Nat))] := by
 have s0 := hs
 unfold DJob.cnt at h1
 refine fO (n := 12) [] Tryz.func73 (by kernel_rfl) rfl (by kernel_rfl) (by rfl) (.inr ⟨trivial, trivial⟩) ?_
 repeat' ((conv=>whnf);first|with_reducible (first|refine Lm ?_|refine Wm (by omega) ?_|refine dF (by omega) (fun h => ?_)|refine nF (by omega) (fun h => ?_)|refine Bn ?_|refine Fm rfl ?_)|refine Bt ?_|refine Bu ?_|refine Cl.mk (heldPlan_ok x.Plan _ s0 (by omega) (by omega)) ?_)
 exact congrArg (fun z => [I z]) (by unfold DJob.cnt; omega)
theorem heldHeap_ok (x : DHeap) (k : Int) (hs : DHeap.sml x) (h0 : 0 ≤ k) (h1 : k + (DHeap.cnt x : Nat) ≤ 1099511627776) : CallsA Tryz.prog 12 false [.val (some 24) (DHeap.enc .imm (x.mark k)), .val none [I k]] .one [I (k + (DHeap.cnt x : Nat))] := by
 obtain ⟨s0, s1, s2, s3, s4, s5, s6, s7, s8⟩ := hs
 unfold DHeap.cnt at h1
 refine fO (n := 60) [] Tryz.func12 (by kernel_rfl) rfl (by kernel_rfl) (by rfl) (.inr ⟨trivial, trivial⟩) ?_
 repeat' ((conv=>whnf);first|with_reducible (first|refine Lm ?_|refine Wm (by omega) ?_|refine dF (by omega) (fun h => ?_)|refine nF (by omega) (fun h => ?_)|refine Bn ?_|refine Fm rfl ?_)|refine Bt ?_|refine Bu ?_|refine Cl.mk (heldKernel_ok x.Kernel _ s0 (by omega) (by omega)) ?_|refine Cl.mk (heldRangeS_ok x.Free _ s1 (by omega) (by omega)) ?_|refine Cl.mk (heldSpanS_ok x.Spans _ s2 (by omega) (by omega)) ?_|refine Cl.mk (heldLargeS_ok x.Larges _ s3 (by omega) (by omega)) ?_|refine Cl.mk (heldObjS_ok x.Objs _ s4 (by omega) (by omega)) ?_|refine Cl.mk (heldCacheS_ok x.Caches _ s5 (by omega) (by omega)) ?_|refine Cl.mk (heldMail_ok x.Mail _ s6 (by omega) (by omega)) ?_|refine Cl.mk (heldQuar_ok x.Quar _ s7 (by omega) (by omega)) ?_|refine Cl.mk (heldJob_ok x.Job _ s8 (by omega) (by omega)) ?_)
 exact congrArg (fun z => [I z]) (by unfold DHeap.cnt; omega)
end Go.Proofs.YtogajjgmcnjkbaaGreat.Ab
/- How data that came in reads, as trees of cells. No condition. -/
namespace Go.Proofs.YtogajjgmcnjkbaaGreat.Ab
open Go.RowKit Go.ChangeShapes Go.WideShapes Go.Deep

/-- All the memory of a world. -/
def ALL (w : World) : CellSet := fun b _ => b < w.heap.size
/-- Whatever reads as of type t holds a datum (n cells, as enc and wf say). -/
def OpT {H : Type} (e : TypeId × Value → H) (P : Program) (w : World) (t n : Nat) {α : Type} (enc : α → List C) (wf : α → Prop) : Prop :=
 ∀ (fuel : Nat) (cs : List Value) (x : DataW H × List MemPlace), DataW.trod e P w 0 (fun _ => true) true fuel t cs = some x → cs.length = n ∧ ∃ a, wf a ∧ (enc a).length = n ∧ Row w (ALL w) NO (enc a) (fun j => cs.getD j undef)
section
variable {H : Type} {e : TypeId × Value → H} {P : Program} {w : World}

theorem row_one {S F : CellSet} {c : C} {u : Nat → Value} (h : Rep w S F c (u 0)) : Row w S F [c] u :=
 ⟨fun _ => F, fun j c' hj => by cases j with
   | zero => simp at hj; subst hj; exact h
   | succ j => simp at hj, fun _ _ _ _ h => h, fun j j' hj hj' hne => by simp at hj hj'; omega⟩
theorem op_int {t : Nat} (ht : P.underlying t = some (.int .i64)) : OpT e P w t 1 (rI .imm) wfI := by
 intro fuel cs x h
 obtain ⟨n, rfl, -, hw⟩ := DataW.trod_int ht h
 refine ⟨rfl, n, ?_, rfl, row_one (.v _ _ rfl)⟩
 unfold wfI
 simp only [Lit.wf, Bool.and_eq_true, decide_eq_true_eq] at hw
 exact hw
theorem op_bool {t : Nat} (ht : P.underlying t = some .bool) : OpT e P w t 1 (rB .imm) wfB := by
 intro fuel cs x h
 obtain ⟨b, rfl, -⟩ := DataW.trod_bool ht h
 exact ⟨rfl, b, trivial, rfl, row_one (.v _ _ rfl)⟩
theorem pick {α β : Type} (n : Nat) {Q : Nat → β → Prop} (h : ∀ i, i < n → ∃ b, Q i b) : ∃ l : List β, l.length = n ∧ ∀ i b, l[i]? = some b → Q i b := by
 induction n with
 | zero => exact ⟨[], rfl, fun i b h => by simp at h⟩
 | succ n ih =>
  obtain ⟨l, h1, h2⟩ := ih fun i hi => h i (by omega)
  obtain ⟨b, hb⟩ := h n (by omega)
  refine ⟨l ++ [b], by simp [h1], fun i b' hi => ?_⟩
  by_cases hl : i < n
  ·rw [List.getElem?_append_left (by omega)] at hi; exact h2 i b' hi
  ·rw [List.getElem?_append_right (by omega)] at hi
   have : i - l.length = 0 := by
    have := (List.getElem?_eq_some_iff.1 hi).1
    simp at this; omega
   rw [this] at hi
   simp at hi
   subst hi
   rw [show i = n by omega]; exact hb
theorem op_slice {t el n : Nat} {α : Type} {enc : α → List C} {wf : α → Prop} (hel : OpT e P w el n enc wf) (ht : P.underlying t = some (.slice el)) (hn : P.cellsOf el = n) (hpos : 0 < n) :
  OpT e P w t 1 (fun xs : List α => [.s .imm (xs.map enc)]) (fun xs => xs.length ≤ 9223372036854775807 ∧ ∀ y ∈ xs, wf y) := by
 intro fuel cs x h
 rcases open_slice ht h with ⟨rfl, -⟩ | ⟨ad, len, cap, m, n', D, Pl, rfl, -, hl, hm, hmm, -, hi⟩
 ·exact ⟨rfl, [], ⟨by simp, by simp⟩, rfl, row_one (.nil _ _ _ trivial)⟩
 ·simp only [if_true] at hmm
  subst hmm
  have hsp : 0 < m → ad.spot = none := fun hpm => by
   obtain ⟨cs', hc, htr⟩ := hi 0 hpm
   rw [hn] at hc
   obtain ⟨_, hcl, hat⟩ := World.cells?_some hc
   have := hat 0 hpos
   rw [List.getElem?_eq_getElem (by omega)] at this
   have := World.cell?_spot this
   simpa [Addr.add] using this
  have key : ∀ i, i < len → ∃ a, wf a ∧ (enc a).length = n ∧ (∀ d, d < n → ∃ z, cel w ad.block (ad.off + (i * n + d)) = some z) ∧ ad.spot = none ∧ Row w (ALL w) NO (enc a) (fun d => (cel w ad.block (ad.off + (i * n + d))).getD undef) := fun i hil => by
   have hspot := hsp (by omega)
   obtain ⟨cs', hc, htr⟩ := hi i (by omega)
   rw [hn] at hc
   obtain ⟨h1, a, h3, h4, h5⟩ := hel _ _ _ htr
   obtain ⟨_, hcl, hat⟩ := World.cells?_some hc
   have hadd : ∀ d, ad.add d = ⟨ad.block, ad.off + d, none⟩ := fun d => by
    obtain ⟨b, o, sp⟩ := ad
    simp only at hspot
    subst hspot
    unfold Addr.add
    split <;> simp_all
   have hcell : ∀ d, d < n → cel w ad.block (ad.off + (i * n + d)) = cs'[d]? := fun d hd => by
    have := hat d hd
    rw [Go.Deep.add_add, hadd] at this
    exact this
   refine ⟨a, h3, h4, fun d hd => ⟨_, by rw [hcell d hd, List.getElem?_eq_getElem (by omega)]⟩, hspot, h5.congr fun d hd => ?_⟩
   show (cel w ad.block (ad.off + (i * n + d))).getD undef = cs'.getD d undef
   rw [hcell d (by omega), List.getD]
  obtain ⟨l, hll, hlq⟩ := pick (α := α) len key
  refine ⟨rfl, l, ⟨by simp only [maxLen] at hm; omega, fun y hy => ?_⟩, rfl, row_one ?_⟩
  ·obtain ⟨i, hi'⟩ := List.mem_iff_getElem?.1 hy
   exact (hlq i y hi').1
  ·show Rep w (ALL w) NO (.s .imm (l.map enc)) (.slice (some ad) len m)
   by_cases h0 : len = 0
   ·subst h0
    have : l = [] := List.eq_nil_of_length_eq_zero hll
    subst this
    by_cases hc0 : m = 0
    ·subst hc0; exact .nil _ _ _ trivial
    ·have hspot := hsp (by omega)
     obtain ⟨b, o, sp⟩ := ad
     simp only at hspot
     subst hspot
     exact .imm _ b o n 0 m [] (fun _ => undef) rfl (fun r hr => by simp at hr) hl (fun q hq => by simp at hq) (fun i j r c hi => by simp at hi)
   ·obtain ⟨y0, hy0⟩ : ∃ y, l[0]? = some y := ⟨_, List.getElem?_eq_getElem (by omega)⟩
    have hspot := (hlq 0 y0 hy0).2.2.2.1
    obtain ⟨b, o, sp⟩ := ad
    simp only at hspot
    subst hspot
    refine .imm _ b o n len m (l.map enc) (fun q => (cel w b (o + q)).getD undef) (by simpa using hll) (fun r hr => ?_) hl (fun q hq => ?_) (fun i j r c hi hj => ?_)
    ·obtain ⟨y, hy, rfl⟩ := List.mem_map.1 hr
     obtain ⟨i, hi'⟩ := List.mem_iff_getElem?.1 hy
     exact (hlq i y hi').2.1
    ·have hqd : q / n < len := (Nat.div_lt_iff_lt_mul hpos).2 hq
     obtain ⟨y, hy⟩ : ∃ y, l[q / n]? = some y := ⟨_, List.getElem?_eq_getElem (by omega)⟩
     obtain ⟨z, hz⟩ := (hlq _ y hy).2.2.1 (q % n) (Nat.mod_lt _ hpos)
     have hd : q / n * n + q % n = q := by rw [Nat.mul_comm]; exact Nat.div_add_mod q n
     rw [hd] at hz
     exact ⟨cel_lt hz, by simp only at hz ⊢; rw [hz]; rfl⟩
    ·rw [List.getElem?_map] at hi
     cases hli : l[i]? with
     | none => rw [hli] at hi; cases hi
     | some y =>
      rw [hli] at hi
      simp only [Option.map_some, Option.some.injEq] at hi
      subst hi
      obtain ⟨f, h1, h2, -⟩ := (hlq i y hli).2.2.2.2
      have hjl := (List.getElem?_eq_some_iff.1 hj).1
      exact (h1 j c hj).mono (fun _ _ h => h) (h2 j hjl)
/-- A struct's part. -/
theorem op_part {t : Nat} {fs : Array Field} {fuel : Nat} {cs : List Value} {x : DataW H × List MemPlace} (ht : P.underlying t = some (.struct fs)) (h : DataW.trod e P w 0 (fun _ => true) true fuel t cs = some x) (i : Nat) (f : Field) (hf : fs[i]? = some f)
  {n : Nat} {α : Type} {enc : α → List C} {wf : α → Prop} (ho : OpT e P w f.type n enc wf) (hn : P.cellsOf f.type = n) : ∃ a, wf a ∧ (enc a).length = n ∧ Row w (ALL w) NO (enc a) (fun j => cs.getD (f.offset + j) undef) := by
 obtain ⟨ys, n', hn', hy, hlen, hyl, hfl⟩ := DataW.trod_struct ht h
 have h1 := hfl i f hf
 have hi := (Array.getElem?_eq_some_iff.1 hf).1
 rw [List.getElem?_eq_getElem (by omega)] at h1
 rw [hn] at h1
 obtain ⟨e1, a, e2, e3, e4⟩ := ho _ _ _ h1
 refine ⟨a, e2, e3, e4.congr fun j hj => ?_⟩
 simp only [List.getD]
 rw [List.getElem?_take_of_lt (by omega), List.getElem?_drop]
theorem op_cat {cs : List Value} {c1 c2 : List C} {o : Nat} (h1 : Row w (ALL w) NO c1 (fun j => cs.getD (o + j) undef)) (h2 : Row w (ALL w) NO c2 (fun j => cs.getD (o + c1.length + j) undef)) : Row w (ALL w) NO (c1 ++ c2) (fun j => cs.getD (o + j) undef) := by
 refine ((row_append h1 h2 fun _ _ h => h.elim).mono (fun _ _ h => h) (fun _ _ h => h.elim id id)).congr fun j hj => ?_
 by_cases hl : j < c1.length
 ·rw [if_pos hl]
 ·rw [if_neg hl]
  show cs.getD (o + j) undef = cs.getD (o + c1.length + (j - c1.length)) undef
  congr 1; omega
theorem valOk_agg {S : CellSet} {cs : Array Value} {n : Nat} {xs : List C} (h1 : cs.toList.length = n) (h2 : xs.length = n) (h3 : Row w S NO xs (fun j => cs.toList.getD j undef)) : ValOk w S NO (some n) xs (.agg cs) := by
 refine ⟨h2, _, ?_, h3⟩
 have := mkv_agg cs
 rw [show cs.size = n by simpa using h1] at this
 exact this
theorem row_val {S F : CellSet} {x : Value} {u : Nat → Value} (h : Row w S F [.v x] u) : u 0 = x := by
 obtain ⟨f, h1, -⟩ := h
 have := h1 0 _ rfl
 cases this
 rfl
end
end Go.Proofs.YtogajjgmcnjkbaaGreat.Ab
/- How the laws' types read. Printed by gen_op.py. No condition. -/
namespace Go.Proofs.YtogajjgmcnjkbaaGreat.Ab
open Go.RowKit
set_option maxRecDepth 20000
set_option maxHeartbeats 1000000
section
variable {H : Type} {e : TypeId × Value → H} {w : World}
theorem op_Int : OpT e Tryz.prog w 3 1 (rI .imm) wfI := op_int Tryz.underlying3
theorem op_Bool : OpT e Tryz.prog w 4 1 (rB .imm) wfB := op_bool Tryz.underlying4
theorem op_IntS : OpT e Tryz.prog w 31 1 (rIntS .imm) wfIntS := op_slice op_Int Tryz.underlying31 (by kernel_rfl) (by decide)
theorem op_IntSS : OpT e Tryz.prog w 22 1 (rIntSS .imm) wfIntSS := op_slice op_IntS Tryz.underlying22 (by kernel_rfl) (by decide)
theorem op_BoolS : OpT e Tryz.prog w 23 1 (rBoolS .imm) wfBoolS := op_slice op_Bool Tryz.underlying23 (by kernel_rfl) (by decide)
theorem op_DFrames : OpT e Tryz.prog w 25 2 (DFrames.enc .imm) DFrames.wf := by
 intro fuel cs x h
 obtain ⟨ys, n', -, -, hlen, -⟩ := DataW.trod_struct Tryz.underlying25 h
 obtain ⟨a0, w0, l0, r0⟩ := op_part Tryz.underlying25 h 0 _ rfl op_IntSS (by kernel_rfl)
 obtain ⟨a1, w1, l1, r1⟩ := op_part Tryz.underlying25 h 1 _ rfl op_BoolS (by kernel_rfl)
 have hrow := (op_cat r0 r1)
 exact ⟨hlen.trans (by kernel_rfl), ⟨a0, a1⟩, ⟨w0, w1⟩, rfl, hrow.congr fun j _ => by show cs.getD j undef = cs.getD (0 + j) undef; rw [Nat.zero_add]⟩
theorem op_DEntry : OpT e Tryz.prog w 338 2 (DEntry.enc .imm) DEntry.wf := by
 intro fuel cs x h
 obtain ⟨ys, n', -, -, hlen, -⟩ := DataW.trod_struct Tryz.underlying338 h
 obtain ⟨a0, w0, l0, r0⟩ := op_part Tryz.underlying338 h 0 _ rfl op_Int (by kernel_rfl)
 obtain ⟨a1, w1, l1, r1⟩ := op_part Tryz.underlying338 h 1 _ rfl op_Int (by kernel_rfl)
 have hrow := (op_cat r0 r1)
 exact ⟨hlen.trans (by kernel_rfl), ⟨a0, a1⟩, ⟨w0, w1⟩, rfl, hrow.congr fun j _ => by show cs.getD j undef = cs.getD (0 + j) undef; rw [Nat.zero_add]⟩
theorem op_DEntryS : OpT e Tryz.prog w 26 1 (rDEntryS .imm) wfDEntryS := op_slice op_DEntry Tryz.underlying26 (by kernel_rfl) (by decide)
theorem op_DTable : OpT e Tryz.prog w 28 1 (DTable.enc .imm) DTable.wf := by
 intro fuel cs x h
 obtain ⟨ys, n', -, -, hlen, -⟩ := DataW.trod_struct Tryz.underlying28 h
 obtain ⟨a0, w0, l0, r0⟩ := op_part Tryz.underlying28 h 0 _ rfl op_DEntryS (by kernel_rfl)
 have hrow := r0
 exact ⟨hlen.trans (by kernel_rfl), ⟨a0⟩, w0, rfl, hrow.congr fun j _ => by show cs.getD j undef = cs.getD (0 + j) undef; rw [Nat.zero_add]⟩
theorem op_DMachine : OpT e Tryz.prog w 30 3 (DMachine.enc .imm) DMachine.wf := by
 intro fuel cs x h
 obtain ⟨ys, n', -, -, hlen, -⟩ := DataW.trod_struct Tryz.underlying30 h
 obtain ⟨a0, w0, l0, r0⟩ := op_part Tryz.underlying30 h 0 _ rfl op_DFrames (by kernel_rfl)
 obtain ⟨a1, w1, l1, r1⟩ := op_part Tryz.underlying30 h 1 _ rfl op_DTable (by kernel_rfl)
 have hrow := (op_cat r0 r1)
 exact ⟨hlen.trans (by kernel_rfl), ⟨a0, a1⟩, ⟨w0, w1⟩, rfl, hrow.congr fun j _ => by show cs.getD j undef = cs.getD (0 + j) undef; rw [Nat.zero_add]⟩
theorem op_DKernel : OpT e Tryz.prog w 33 5 (DKernel.enc .imm) DKernel.wf := by
 intro fuel cs x h
 obtain ⟨ys, n', -, -, hlen, -⟩ := DataW.trod_struct Tryz.underlying33 h
 obtain ⟨a0, w0, l0, r0⟩ := op_part Tryz.underlying33 h 0 _ rfl op_DMachine (by kernel_rfl)
 obtain ⟨a1, w1, l1, r1⟩ := op_part Tryz.underlying33 h 1 _ rfl op_Int (by kernel_rfl)
 obtain ⟨a2, w2, l2, r2⟩ := op_part Tryz.underlying33 h 2 _ rfl op_IntS (by kernel_rfl)
 have hrow := (op_cat r0 (op_cat r1 r2))
 exact ⟨hlen.trans (by kernel_rfl), ⟨a0, a1, a2⟩, ⟨w0, w1, w2⟩, rfl, hrow.congr fun j _ => by show cs.getD j undef = cs.getD (0 + j) undef; rw [Nat.zero_add]⟩
theorem op_DRange : OpT e Tryz.prog w 171 2 (DRange.enc .imm) DRange.wf := by
 intro fuel cs x h
 obtain ⟨ys, n', -, -, hlen, -⟩ := DataW.trod_struct Tryz.underlying171 h
 obtain ⟨a0, w0, l0, r0⟩ := op_part Tryz.underlying171 h 0 _ rfl op_Int (by kernel_rfl)
 obtain ⟨a1, w1, l1, r1⟩ := op_part Tryz.underlying171 h 1 _ rfl op_Int (by kernel_rfl)
 have hrow := (op_cat r0 r1)
 exact ⟨hlen.trans (by kernel_rfl), ⟨a0, a1⟩, ⟨w0, w1⟩, rfl, hrow.congr fun j _ => by show cs.getD j undef = cs.getD (0 + j) undef; rw [Nat.zero_add]⟩
theorem op_DRangeS : OpT e Tryz.prog w 34 1 (rDRangeS .imm) wfDRangeS := op_slice op_DRange Tryz.underlying34 (by kernel_rfl) (by decide)
theorem op_DSpan : OpT e Tryz.prog w 175 3 (DSpan.enc .imm) DSpan.wf := by
 intro fuel cs x h
 obtain ⟨ys, n', -, -, hlen, -⟩ := DataW.trod_struct Tryz.underlying175 h
 obtain ⟨a0, w0, l0, r0⟩ := op_part Tryz.underlying175 h 0 _ rfl op_Int (by kernel_rfl)
 obtain ⟨a1, w1, l1, r1⟩ := op_part Tryz.underlying175 h 1 _ rfl op_Int (by kernel_rfl)
 obtain ⟨a2, w2, l2, r2⟩ := op_part Tryz.underlying175 h 2 _ rfl op_Int (by kernel_rfl)
 have hrow := (op_cat r0 (op_cat r1 r2))
 exact ⟨hlen.trans (by kernel_rfl), ⟨a0, a1, a2⟩, ⟨w0, w1, w2⟩, rfl, hrow.congr fun j _ => by show cs.getD j undef = cs.getD (0 + j) undef; rw [Nat.zero_add]⟩
theorem op_DSpanS : OpT e Tryz.prog w 35 1 (rDSpanS .imm) wfDSpanS := op_slice op_DSpan Tryz.underlying35 (by kernel_rfl) (by decide)
theorem op_DLarge : OpT e Tryz.prog w 179 3 (DLarge.enc .imm) DLarge.wf := by
 intro fuel cs x h
 obtain ⟨ys, n', -, -, hlen, -⟩ := DataW.trod_struct Tryz.underlying179 h
 obtain ⟨a0, w0, l0, r0⟩ := op_part Tryz.underlying179 h 0 _ rfl op_Int (by kernel_rfl)
 obtain ⟨a1, w1, l1, r1⟩ := op_part Tryz.underlying179 h 1 _ rfl op_Int (by kernel_rfl)
 obtain ⟨a2, w2, l2, r2⟩ := op_part Tryz.underlying179 h 2 _ rfl op_Int (by kernel_rfl)
 have hrow := (op_cat r0 (op_cat r1 r2))
 exact ⟨hlen.trans (by kernel_rfl), ⟨a0, a1, a2⟩, ⟨w0, w1, w2⟩, rfl, hrow.congr fun j _ => by show cs.getD j undef = cs.getD (0 + j) undef; rw [Nat.zero_add]⟩
theorem op_DLargeS : OpT e Tryz.prog w 36 1 (rDLargeS .imm) wfDLargeS := op_slice op_DLarge Tryz.underlying36 (by kernel_rfl) (by decide)
theorem op_DObj : OpT e Tryz.prog w 181 4 (DObj.enc .imm) DObj.wf := by
 intro fuel cs x h
 obtain ⟨ys, n', -, -, hlen, -⟩ := DataW.trod_struct Tryz.underlying181 h
 obtain ⟨a0, w0, l0, r0⟩ := op_part Tryz.underlying181 h 0 _ rfl op_Int (by kernel_rfl)
 obtain ⟨a1, w1, l1, r1⟩ := op_part Tryz.underlying181 h 1 _ rfl op_Int (by kernel_rfl)
 obtain ⟨a2, w2, l2, r2⟩ := op_part Tryz.underlying181 h 2 _ rfl op_Int (by kernel_rfl)
 obtain ⟨a3, w3, l3, r3⟩ := op_part Tryz.underlying181 h 3 _ rfl op_Int (by kernel_rfl)
 have hrow := (op_cat r0 (op_cat r1 (op_cat r2 r3)))
 exact ⟨hlen.trans (by kernel_rfl), ⟨a0, a1, a2, a3⟩, ⟨w0, w1, w2, w3⟩, rfl, hrow.congr fun j _ => by show cs.getD j undef = cs.getD (0 + j) undef; rw [Nat.zero_add]⟩
theorem op_DObjS : OpT e Tryz.prog w 37 1 (rDObjS .imm) wfDObjS := op_slice op_DObj Tryz.underlying37 (by kernel_rfl) (by decide)
theorem op_DCache : OpT e Tryz.prog w 148 1 (DCache.enc .imm) DCache.wf := by
 intro fuel cs x h
 obtain ⟨ys, n', -, -, hlen, -⟩ := DataW.trod_struct Tryz.underlying148 h
 obtain ⟨a0, w0, l0, r0⟩ := op_part Tryz.underlying148 h 0 _ rfl op_IntSS (by kernel_rfl)
 have hrow := r0
 exact ⟨hlen.trans (by kernel_rfl), ⟨a0⟩, w0, rfl, hrow.congr fun j _ => by show cs.getD j undef = cs.getD (0 + j) undef; rw [Nat.zero_add]⟩
theorem op_DCacheS : OpT e Tryz.prog w 38 1 (rDCacheS .imm) wfDCacheS := op_slice op_DCache Tryz.underlying38 (by kernel_rfl) (by decide)
theorem op_DPost : OpT e Tryz.prog w 314 2 (DPost.enc .imm) DPost.wf := by
 intro fuel cs x h
 obtain ⟨ys, n', -, -, hlen, -⟩ := DataW.trod_struct Tryz.underlying314 h
 obtain ⟨a0, w0, l0, r0⟩ := op_part Tryz.underlying314 h 0 _ rfl op_Int (by kernel_rfl)
 obtain ⟨a1, w1, l1, r1⟩ := op_part Tryz.underlying314 h 1 _ rfl op_Int (by kernel_rfl)
 have hrow := (op_cat r0 r1)
 exact ⟨hlen.trans (by kernel_rfl), ⟨a0, a1⟩, ⟨w0, w1⟩, rfl, hrow.congr fun j _ => by show cs.getD j undef = cs.getD (0 + j) undef; rw [Nat.zero_add]⟩
theorem op_DPostS : OpT e Tryz.prog w 232 1 (rDPostS .imm) wfDPostS := op_slice op_DPost Tryz.underlying232 (by kernel_rfl) (by decide)
theorem op_DPostSS : OpT e Tryz.prog w 39 1 (rDPostSS .imm) wfDPostSS := op_slice op_DPostS Tryz.underlying39 (by kernel_rfl) (by decide)
theorem op_DMail : OpT e Tryz.prog w 41 2 (DMail.enc .imm) DMail.wf := by
 intro fuel cs x h
 obtain ⟨ys, n', -, -, hlen, -⟩ := DataW.trod_struct Tryz.underlying41 h
 obtain ⟨a0, w0, l0, r0⟩ := op_part Tryz.underlying41 h 0 _ rfl op_DPostSS (by kernel_rfl)
 obtain ⟨a1, w1, l1, r1⟩ := op_part Tryz.underlying41 h 1 _ rfl op_IntSS (by kernel_rfl)
 have hrow := (op_cat r0 r1)
 exact ⟨hlen.trans (by kernel_rfl), ⟨a0, a1⟩, ⟨w0, w1⟩, rfl, hrow.congr fun j _ => by show cs.getD j undef = cs.getD (0 + j) undef; rw [Nat.zero_add]⟩
theorem op_DStale : OpT e Tryz.prog w 257 3 (DStale.enc .imm) DStale.wf := by
 intro fuel cs x h
 obtain ⟨ys, n', -, -, hlen, -⟩ := DataW.trod_struct Tryz.underlying257 h
 obtain ⟨a0, w0, l0, r0⟩ := op_part Tryz.underlying257 h 0 _ rfl op_Int (by kernel_rfl)
 obtain ⟨a1, w1, l1, r1⟩ := op_part Tryz.underlying257 h 1 _ rfl op_Int (by kernel_rfl)
 obtain ⟨a2, w2, l2, r2⟩ := op_part Tryz.underlying257 h 2 _ rfl op_Int (by kernel_rfl)
 have hrow := (op_cat r0 (op_cat r1 r2))
 exact ⟨hlen.trans (by kernel_rfl), ⟨a0, a1, a2⟩, ⟨w0, w1, w2⟩, rfl, hrow.congr fun j _ => by show cs.getD j undef = cs.getD (0 + j) undef; rw [Nat.zero_add]⟩
theorem op_DStaleS : OpT e Tryz.prog w 42 1 (rDStaleS .imm) wfDStaleS := op_slice op_DStale Tryz.underlying42 (by kernel_rfl) (by decide)
theorem op_DQuar : OpT e Tryz.prog w 44 2 (DQuar.enc .imm) DQuar.wf := by
 intro fuel cs x h
 obtain ⟨ys, n', -, -, hlen, -⟩ := DataW.trod_struct Tryz.underlying44 h
 obtain ⟨a0, w0, l0, r0⟩ := op_part Tryz.underlying44 h 0 _ rfl op_Int (by kernel_rfl)
 obtain ⟨a1, w1, l1, r1⟩ := op_part Tryz.underlying44 h 1 _ rfl op_DStaleS (by kernel_rfl)
 have hrow := (op_cat r0 r1)
 exact ⟨hlen.trans (by kernel_rfl), ⟨a0, a1⟩, ⟨w0, w1⟩, rfl, hrow.congr fun j _ => by show cs.getD j undef = cs.getD (0 + j) undef; rw [Nat.zero_add]⟩
theorem op_DPlan : OpT e Tryz.prog w 46 3 (DPlan.enc .imm) DPlan.wf := by
 intro fuel cs x h
 obtain ⟨ys, n', -, -, hlen, -⟩ := DataW.trod_struct Tryz.underlying46 h
 obtain ⟨a0, w0, l0, r0⟩ := op_part Tryz.underlying46 h 0 _ rfl op_Int (by kernel_rfl)
 obtain ⟨a1, w1, l1, r1⟩ := op_part Tryz.underlying46 h 1 _ rfl op_Int (by kernel_rfl)
 obtain ⟨a2, w2, l2, r2⟩ := op_part Tryz.underlying46 h 2 _ rfl op_IntS (by kernel_rfl)
 have hrow := (op_cat r0 (op_cat r1 r2))
 exact ⟨hlen.trans (by kernel_rfl), ⟨a0, a1, a2⟩, ⟨w0, w1, w2⟩, rfl, hrow.congr fun j _ => by show cs.getD j undef = cs.getD (0 + j) undef; rw [Nat.zero_add]⟩
theorem op_DJob : OpT e Tryz.prog w 48 5 (DJob.enc .imm) DJob.wf := by
 intro fuel cs x h
 obtain ⟨ys, n', -, -, hlen, -⟩ := DataW.trod_struct Tryz.underlying48 h
 obtain ⟨a0, w0, l0, r0⟩ := op_part Tryz.underlying48 h 0 _ rfl op_DPlan (by kernel_rfl)
 obtain ⟨a1, w1, l1, r1⟩ := op_part Tryz.underlying48 h 1 _ rfl op_Int (by kernel_rfl)
 obtain ⟨a2, w2, l2, r2⟩ := op_part Tryz.underlying48 h 2 _ rfl op_Int (by kernel_rfl)
 have hrow := (op_cat r0 (op_cat r1 r2))
 exact ⟨hlen.trans (by kernel_rfl), ⟨a0, a1, a2⟩, ⟨w0, w1, w2⟩, rfl, hrow.congr fun j _ => by show cs.getD j undef = cs.getD (0 + j) undef; rw [Nat.zero_add]⟩
theorem op_DHeap : OpT e Tryz.prog w 50 24 (DHeap.enc .imm) DHeap.wf := by
 intro fuel cs x h
 obtain ⟨ys, n', -, -, hlen, -⟩ := DataW.trod_struct Tryz.underlying50 h
 obtain ⟨a0, w0, l0, r0⟩ := op_part Tryz.underlying50 h 0 _ rfl op_DKernel (by kernel_rfl)
 obtain ⟨a1, w1, l1, r1⟩ := op_part Tryz.underlying50 h 1 _ rfl op_DRangeS (by kernel_rfl)
 obtain ⟨a2, w2, l2, r2⟩ := op_part Tryz.underlying50 h 2 _ rfl op_DSpanS (by kernel_rfl)
 obtain ⟨a3, w3, l3, r3⟩ := op_part Tryz.underlying50 h 3 _ rfl op_DLargeS (by kernel_rfl)
 obtain ⟨a4, w4, l4, r4⟩ := op_part Tryz.underlying50 h 4 _ rfl op_DObjS (by kernel_rfl)
 obtain ⟨a5, w5, l5, r5⟩ := op_part Tryz.underlying50 h 5 _ rfl op_DCacheS (by kernel_rfl)
 obtain ⟨a6, w6, l6, r6⟩ := op_part Tryz.underlying50 h 6 _ rfl op_DMail (by kernel_rfl)
 obtain ⟨a7, w7, l7, r7⟩ := op_part Tryz.underlying50 h 7 _ rfl op_DQuar (by kernel_rfl)
 obtain ⟨a8, w8, l8, r8⟩ := op_part Tryz.underlying50 h 8 _ rfl op_Int (by kernel_rfl)
 obtain ⟨a9, w9, l9, r9⟩ := op_part Tryz.underlying50 h 9 _ rfl op_Int (by kernel_rfl)
 obtain ⟨a10, w10, l10, r10⟩ := op_part Tryz.underlying50 h 10 _ rfl op_Int (by kernel_rfl)
 obtain ⟨a11, w11, l11, r11⟩ := op_part Tryz.underlying50 h 11 _ rfl op_Int (by kernel_rfl)
 obtain ⟨a12, w12, l12, r12⟩ := op_part Tryz.underlying50 h 12 _ rfl op_Bool (by kernel_rfl)
 obtain ⟨a13, w13, l13, r13⟩ := op_part Tryz.underlying50 h 13 _ rfl op_DJob (by kernel_rfl)
 have hrow := (op_cat r0 (op_cat r1 (op_cat r2 (op_cat r3 (op_cat r4 (op_cat r5 (op_cat r6 (op_cat r7 (op_cat r8 (op_cat r9 (op_cat r10 (op_cat r11 (op_cat r12 r13)))))))))))))
 exact ⟨hlen.trans (by kernel_rfl), ⟨a0, a1, a2, a3, a4, a5, a6, a7, a8, a9, a10, a11, a12, a13⟩, ⟨w0, w1, w2, w3, w4, w5, w6, w7, w8, w9, w10, w11, w12, w13⟩, rfl, hrow.congr fun j _ => by show cs.getD j undef = cs.getD (0 + j) undef; rw [Nat.zero_add]⟩
end
end Go.Proofs.YtogajjgmcnjkbaaGreat.Ab
