/- Contracts of the laws' generic functions (to). Printed by gen_con.py. No condition. -/
import Derived.Test.YtjgjnlppphejpaaGreatMd
import Derived.ProofKit
import Derived.OpenShut
import Derived.Deep.Slices
import Derived.Deep.Fields
import Derived.ChangeSame
import Derived.WideShapes

namespace Go.Proofs.YtjgjnlppphejpaaGreat.Ab
open Go.RowKit
set_option maxRecDepth 20000
set_option maxHeartbeats 2000000

theorem toIntS_ok (x : List Int) (hx : smlIntS x) : CallsA Tryz.prog 119 false [.val none (rIntS .imm x)] .one (rIntS .own x) := by
 refine fO (n := 22) [] Tryz.func119 (by kernel_rfl) rfl (by kernel_rfl) (by rfl) (.inr (rIntS_fr x)) ?_
 have hl : x.length ≤ 1048576 := hx
 have hml : (x.map (rI .own)).length = (List.replicate x.length ([I 0] : List C)).length := by simp
 repeat' ((conv=>whnf);first|with_reducible (first|refine Lm ?_|refine Wm (by omega) ?_|refine Bn ?_|refine Fm rfl ?_)|refine Bt ?_|refine Bu ?_|refine Mk.mk _ rfl rfl (by omega) (mkB hl (by decide)) rfl ?_)
 (conv=>whnf)
 refine Lp.mk (ι := Nat) (fun i => [(0, .hold .one (rIntS .imm x)), (3, .hold .one [.s .own (mixR (x.map (rI .own)) (List.replicate x.length [I 0]) i)]), (4, .hold .one [I (i : Nat)])]) (fun i => i ≤ x.length) (fun i => x.length - i) 0 ?_ (Nat.zero_le _) fun i hi => ?_
 ·rw [mix_zero]
  repeat' (first|exact trivial|rfl|refine And.intro ?_ ?_)
 ·by_cases hlt : i < x.length
  ·obtain ⟨y, hy⟩ : ∃ y, x[i]? = some y := ⟨_, List.getElem?_eq_getElem hlt⟩
   have hr := mix_get hml i (by simp; omega)
   rw [get_rep hlt] at hr
   repeat' ((conv=>whnf);first|with_reducible (first|refine Lm ?_|refine Wm (by omega) ?_|refine dT (by omega) (fun h => ?_)|refine Ix.nat (get_map hy) ?_|refine Ix.nat hr ?_|refine Bn ?_|refine Fm rfl ?_)|refine Bt ?_|refine Bu ?_|refine Pu.one rfl rfl hr rfl (Nat.le_refl _) rfl ?_|refine Nx.mk (i + 1) (by omega) (by omega) ?_)
   repeat' (first|exact trivial|rfl|exact And.intro rfl (And.intro (congrArg (C.s Own.own) (mix_set hml (get_map hy))) trivial)|refine And.intro ?_ ?_)
  ·repeat' ((conv=>whnf);first|with_reducible (first|refine Lm ?_|refine Wm (by omega) ?_|refine dF (by omega) (fun h => ?_)|refine Bn ?_|refine Fm rfl ?_)|refine Bt ?_|refine Bu ?_)
   rw [mix_end _ hml (by simp; omega)]
   rfl
theorem toIntSS_ok (x : List (List Int)) (hx : smlIntSS x) : CallsA Tryz.prog 126 false [.val none (rIntSS .imm x)] .one (rIntSS .own x) := by
 refine fO (n := 23) [] Tryz.func126 (by kernel_rfl) rfl (by kernel_rfl) (by rfl) (.inr (rIntSS_fr x)) ?_
 have hl : x.length ≤ 1048576 := hx.1
 have hml : (x.map (rIntS .own)).length = (List.replicate x.length ([.z] : List C)).length := by simp
 repeat' ((conv=>whnf);first|with_reducible (first|refine Lm ?_|refine Wm (by omega) ?_|refine Bn ?_|refine Fm rfl ?_)|refine Bt ?_|refine Bu ?_|refine Mk.mk _ rfl rfl (by omega) (mkB hl (by decide)) rfl ?_)
 (conv=>whnf)
 refine Lp.mk (ι := Nat) (fun i => [(0, .hold .one (rIntSS .imm x)), (3, .hold .one [.s .own (mixR (x.map (rIntS .own)) (List.replicate x.length [.z]) i)]), (4, .hold .one [I (i : Nat)])]) (fun i => i ≤ x.length) (fun i => x.length - i) 0 ?_ (Nat.zero_le _) fun i hi => ?_
 ·rw [mix_zero]
  repeat' (first|exact trivial|rfl|refine And.intro ?_ ?_)
 ·by_cases hlt : i < x.length
  ·obtain ⟨y, hy⟩ : ∃ y, x[i]? = some y := ⟨_, List.getElem?_eq_getElem hlt⟩
   have hr := mix_get hml i (by simp; omega)
   rw [get_rep hlt] at hr
   repeat' ((conv=>whnf);first|with_reducible (first|refine Lm ?_|refine Wm (by omega) ?_|refine dT (by omega) (fun h => ?_)|refine Ix.nat (get_map hy) ?_|refine Ix.nat hr ?_|refine Bn ?_|refine Fm rfl ?_)|refine Bt ?_|refine Bu ?_|refine Cl.mk (toIntS_ok y (hx.2 y (List.mem_of_getElem? hy))) ?_|refine Pu.one rfl rfl hr rfl (Nat.le_refl _) rfl ?_|refine Nx.mk (i + 1) (by omega) (by omega) ?_)
   repeat' (first|exact trivial|rfl|exact And.intro rfl (And.intro (congrArg (C.s Own.own) (mix_set hml (get_map hy))) trivial)|refine And.intro ?_ ?_)
  ·repeat' ((conv=>whnf);first|with_reducible (first|refine Lm ?_|refine Wm (by omega) ?_|refine dF (by omega) (fun h => ?_)|refine Bn ?_|refine Fm rfl ?_)|refine Bt ?_|refine Bu ?_)
   rw [mix_end _ hml (by simp; omega)]
   rfl
theorem toBoolS_ok (x : List Bool) (hx : smlBoolS x) : CallsA Tryz.prog 300 false [.val none (rBoolS .imm x)] .one (rBoolS .own x) := by
 refine fO (n := 22) [] Tryz.func300 (by kernel_rfl) rfl (by kernel_rfl) (by rfl) (.inr (rBoolS_fr x)) ?_
 have hl : x.length ≤ 1048576 := hx
 have hml : (x.map (rB .own)).length = (List.replicate x.length ([B false] : List C)).length := by simp
 repeat' ((conv=>whnf);first|with_reducible (first|refine Lm ?_|refine Wm (by omega) ?_|refine Bn ?_|refine Fm rfl ?_)|refine Bt ?_|refine Bu ?_|refine Mk.mk _ rfl rfl (by omega) (mkB hl (by decide)) rfl ?_)
 (conv=>whnf)
 refine Lp.mk (ι := Nat) (fun i => [(0, .hold .one (rBoolS .imm x)), (3, .hold .one [.s .own (mixR (x.map (rB .own)) (List.replicate x.length [B false]) i)]), (4, .hold .one [I (i : Nat)])]) (fun i => i ≤ x.length) (fun i => x.length - i) 0 ?_ (Nat.zero_le _) fun i hi => ?_
 ·rw [mix_zero]
  repeat' (first|exact trivial|rfl|refine And.intro ?_ ?_)
 ·by_cases hlt : i < x.length
  ·obtain ⟨y, hy⟩ : ∃ y, x[i]? = some y := ⟨_, List.getElem?_eq_getElem hlt⟩
   have hr := mix_get hml i (by simp; omega)
   rw [get_rep hlt] at hr
   repeat' ((conv=>whnf);first|with_reducible (first|refine Lm ?_|refine Wm (by omega) ?_|refine dT (by omega) (fun h => ?_)|refine Ix.nat (get_map hy) ?_|refine Ix.nat hr ?_|refine Bn ?_|refine Fm rfl ?_)|refine Bt ?_|refine Bu ?_|refine Pu.one rfl rfl hr rfl (Nat.le_refl _) rfl ?_|refine Nx.mk (i + 1) (by omega) (by omega) ?_)
   repeat' (first|exact trivial|rfl|exact And.intro rfl (And.intro (congrArg (C.s Own.own) (mix_set hml (get_map hy))) trivial)|refine And.intro ?_ ?_)
  ·repeat' ((conv=>whnf);first|with_reducible (first|refine Lm ?_|refine Wm (by omega) ?_|refine dF (by omega) (fun h => ?_)|refine Bn ?_|refine Fm rfl ?_)|refine Bt ?_|refine Bu ?_)
   rw [mix_end _ hml (by simp; omega)]
   rfl
theorem toFrames_ok (x : DFrames) (hs : DFrames.sml x) : CallsA Tryz.prog 224 false [.val (some 2) (DFrames.enc .imm x)] .agg (DFrames.enc .own x) := by
 obtain ⟨h0, h1⟩ := hs
 refine fO (n := 13) [] Tryz.func224 (by kernel_rfl) rfl (by kernel_rfl) (by rfl) (.inr (DFrames.enc_fr x)) ?_
 repeat' ((conv=>whnf);first|with_reducible (first|refine Lm ?_|refine Wm (by omega) ?_|refine Bn ?_|refine Fm rfl ?_)|refine Bt ?_|refine Bu ?_|refine Cl.mk (toIntSS_ok x.Cells h0) ?_|refine Cl.mk (toBoolS_ok x.Used h1) ?_)
 rfl
theorem toEntry_ok (x : DEntry) (hs : DEntry.sml x) : CallsA Tryz.prog 321 false [.val (some 2) (DEntry.enc .imm x)] .agg (DEntry.enc .own x) := by
 refine fO (n := 11) [] Tryz.func321 (by kernel_rfl) rfl (by kernel_rfl) (by rfl) (.inr (DEntry.enc_fr x)) ?_
 repeat' ((conv=>whnf);first|with_reducible (first|refine Lm ?_|refine Wm (by omega) ?_|refine Bn ?_|refine Fm rfl ?_)|refine Bt ?_|refine Bu ?_)
 rfl
theorem toEntryS_ok (x : List DEntry) (hx : smlDEntryS x) : CallsA Tryz.prog 301 false [.val none (rDEntryS .imm x)] .one (rDEntryS .own x) := by
 refine fO (n := 23) [] Tryz.func301 (by kernel_rfl) rfl (by kernel_rfl) (by rfl) (.inr (rDEntryS_fr x)) ?_
 have hl : x.length ≤ 1048576 := hx.1
 have hml : (x.map (DEntry.enc .own)).length = (List.replicate x.length ([I 0, I 0] : List C)).length := by simp
 repeat' ((conv=>whnf);first|with_reducible (first|refine Lm ?_|refine Wm (by omega) ?_|refine Bn ?_|refine Fm rfl ?_)|refine Bt ?_|refine Bu ?_|refine Mk.mk _ rfl rfl (by omega) (mkB hl (by decide)) rfl ?_)
 (conv=>whnf)
 refine Lp.mk (ι := Nat) (fun i => [(0, .hold .one (rDEntryS .imm x)), (3, .hold .one [.s .own (mixR (x.map (DEntry.enc .own)) (List.replicate x.length [I 0, I 0]) i)]), (4, .hold .one [I (i : Nat)])]) (fun i => i ≤ x.length) (fun i => x.length - i) 0 ?_ (Nat.zero_le _) fun i hi => ?_
 ·rw [mix_zero]
  repeat' (first|exact trivial|rfl|refine And.intro ?_ ?_)
 ·by_cases hlt : i < x.length
  ·obtain ⟨y, hy⟩ : ∃ y, x[i]? = some y := ⟨_, List.getElem?_eq_getElem hlt⟩
   have hr := mix_get hml i (by simp; omega)
   rw [get_rep hlt] at hr
   repeat' ((conv=>whnf);first|with_reducible (first|refine Lm ?_|refine Wm (by omega) ?_|refine dT (by omega) (fun h => ?_)|refine Ix.nat (get_map hy) ?_|refine Ix.nat hr ?_|refine Bn ?_|refine Fm rfl ?_)|refine Bt ?_|refine Bu ?_|refine Cl.mk (toEntry_ok y trivial) ?_|refine Pu.one rfl rfl hr rfl (Nat.le_refl _) rfl ?_|refine Nx.mk (i + 1) (by omega) (by omega) ?_)
   repeat' (first|exact trivial|rfl|exact And.intro rfl (And.intro (congrArg (C.s Own.own) (mix_set hml (get_map hy))) trivial)|refine And.intro ?_ ?_)
  ·repeat' ((conv=>whnf);first|with_reducible (first|refine Lm ?_|refine Wm (by omega) ?_|refine dF (by omega) (fun h => ?_)|refine Bn ?_|refine Fm rfl ?_)|refine Bt ?_|refine Bu ?_)
   rw [mix_end _ hml (by simp; omega)]
   rfl
theorem toTable_ok (x : DTable) (hs : DTable.sml x) : CallsA Tryz.prog 225 false [.val (some 1) (DTable.enc .imm x)] .agg (DTable.enc .own x) := by
 have h0 := hs
 refine fO (n := 9) [] Tryz.func225 (by kernel_rfl) rfl (by kernel_rfl) (by rfl) (.inr (DTable.enc_fr x)) ?_
 repeat' ((conv=>whnf);first|with_reducible (first|refine Lm ?_|refine Wm (by omega) ?_|refine Bn ?_|refine Fm rfl ?_)|refine Bt ?_|refine Bu ?_|refine Cl.mk (toEntryS_ok x.Entries h0) ?_)
 rfl
theorem toMachine_ok (x : DMachine) (hs : DMachine.sml x) : CallsA Tryz.prog 118 false [.val (some 3) (DMachine.enc .imm x)] .agg (DMachine.enc .own x) := by
 obtain ⟨h0, h1⟩ := hs
 refine fO (n := 13) [] Tryz.func118 (by kernel_rfl) rfl (by kernel_rfl) (by rfl) (.inr (DMachine.enc_fr x)) ?_
 repeat' ((conv=>whnf);first|with_reducible (first|refine Lm ?_|refine Wm (by omega) ?_|refine Bn ?_|refine Fm rfl ?_)|refine Bt ?_|refine Bu ?_|refine Cl.mk (toFrames_ok x.Frames h0) ?_|refine Cl.mk (toTable_ok x.Table h1) ?_)
 rfl
theorem toKernel_ok (x : DKernel) (hs : DKernel.sml x) : CallsA Tryz.prog 39 false [.val (some 5) (DKernel.enc .imm x)] .agg (DKernel.enc .own x) := by
 obtain ⟨h0, h1⟩ := hs
 refine fO (n := 16) [] Tryz.func39 (by kernel_rfl) rfl (by kernel_rfl) (by rfl) (.inr (DKernel.enc_fr x)) ?_
 repeat' ((conv=>whnf);first|with_reducible (first|refine Lm ?_|refine Wm (by omega) ?_|refine Bn ?_|refine Fm rfl ?_)|refine Bt ?_|refine Bu ?_|refine Cl.mk (toMachine_ok x.Machine h0) ?_|refine Cl.mk (toIntS_ok x.Refuse h1) ?_)
 rfl
theorem toRange_ok (x : DRange) (hs : DRange.sml x) : CallsA Tryz.prog 120 false [.val (some 2) (DRange.enc .imm x)] .agg (DRange.enc .own x) := by
 refine fO (n := 11) [] Tryz.func120 (by kernel_rfl) rfl (by kernel_rfl) (by rfl) (.inr (DRange.enc_fr x)) ?_
 repeat' ((conv=>whnf);first|with_reducible (first|refine Lm ?_|refine Wm (by omega) ?_|refine Bn ?_|refine Fm rfl ?_)|refine Bt ?_|refine Bu ?_)
 rfl
theorem toRangeS_ok (x : List DRange) (hx : smlDRangeS x) : CallsA Tryz.prog 40 false [.val none (rDRangeS .imm x)] .one (rDRangeS .own x) := by
 refine fO (n := 23) [] Tryz.func40 (by kernel_rfl) rfl (by kernel_rfl) (by rfl) (.inr (rDRangeS_fr x)) ?_
 have hl : x.length ≤ 1048576 := hx.1
 have hml : (x.map (DRange.enc .own)).length = (List.replicate x.length ([I 0, I 0] : List C)).length := by simp
 repeat' ((conv=>whnf);first|with_reducible (first|refine Lm ?_|refine Wm (by omega) ?_|refine Bn ?_|refine Fm rfl ?_)|refine Bt ?_|refine Bu ?_|refine Mk.mk _ rfl rfl (by omega) (mkB hl (by decide)) rfl ?_)
 (conv=>whnf)
 refine Lp.mk (ι := Nat) (fun i => [(0, .hold .one (rDRangeS .imm x)), (3, .hold .one [.s .own (mixR (x.map (DRange.enc .own)) (List.replicate x.length [I 0, I 0]) i)]), (4, .hold .one [I (i : Nat)])]) (fun i => i ≤ x.length) (fun i => x.length - i) 0 ?_ (Nat.zero_le _) fun i hi => ?_
 ·rw [mix_zero]
  repeat' (first|exact trivial|rfl|refine And.intro ?_ ?_)
 ·by_cases hlt : i < x.length
  ·obtain ⟨y, hy⟩ : ∃ y, x[i]? = some y := ⟨_, List.getElem?_eq_getElem hlt⟩
   have hr := mix_get hml i (by simp; omega)
   rw [get_rep hlt] at hr
   repeat' ((conv=>whnf);first|with_reducible (first|refine Lm ?_|refine Wm (by omega) ?_|refine dT (by omega) (fun h => ?_)|refine Ix.nat (get_map hy) ?_|refine Ix.nat hr ?_|refine Bn ?_|refine Fm rfl ?_)|refine Bt ?_|refine Bu ?_|refine Cl.mk (toRange_ok y trivial) ?_|refine Pu.one rfl rfl hr rfl (Nat.le_refl _) rfl ?_|refine Nx.mk (i + 1) (by omega) (by omega) ?_)
   repeat' (first|exact trivial|rfl|exact And.intro rfl (And.intro (congrArg (C.s Own.own) (mix_set hml (get_map hy))) trivial)|refine And.intro ?_ ?_)
  ·repeat' ((conv=>whnf);first|with_reducible (first|refine Lm ?_|refine Wm (by omega) ?_|refine dF (by omega) (fun h => ?_)|refine Bn ?_|refine Fm rfl ?_)|refine Bt ?_|refine Bu ?_)
   rw [mix_end _ hml (by simp; omega)]
   rfl
theorem toSpan_ok (x : DSpan) (hs : DSpan.sml x) : CallsA Tryz.prog 121 false [.val (some 3) (DSpan.enc .imm x)] .agg (DSpan.enc .own x) := by
 refine fO (n := 14) [] Tryz.func121 (by kernel_rfl) rfl (by kernel_rfl) (by rfl) (.inr (DSpan.enc_fr x)) ?_
 repeat' ((conv=>whnf);first|with_reducible (first|refine Lm ?_|refine Wm (by omega) ?_|refine Bn ?_|refine Fm rfl ?_)|refine Bt ?_|refine Bu ?_)
 rfl
theorem toSpanS_ok (x : List DSpan) (hx : smlDSpanS x) : CallsA Tryz.prog 41 false [.val none (rDSpanS .imm x)] .one (rDSpanS .own x) := by
 refine fO (n := 23) [] Tryz.func41 (by kernel_rfl) rfl (by kernel_rfl) (by rfl) (.inr (rDSpanS_fr x)) ?_
 have hl : x.length ≤ 1048576 := hx.1
 have hml : (x.map (DSpan.enc .own)).length = (List.replicate x.length ([I 0, I 0, I 0] : List C)).length := by simp
 repeat' ((conv=>whnf);first|with_reducible (first|refine Lm ?_|refine Wm (by omega) ?_|refine Bn ?_|refine Fm rfl ?_)|refine Bt ?_|refine Bu ?_|refine Mk.mk _ rfl rfl (by omega) (mkB hl (by decide)) rfl ?_)
 (conv=>whnf)
 refine Lp.mk (ι := Nat) (fun i => [(0, .hold .one (rDSpanS .imm x)), (3, .hold .one [.s .own (mixR (x.map (DSpan.enc .own)) (List.replicate x.length [I 0, I 0, I 0]) i)]), (4, .hold .one [I (i : Nat)])]) (fun i => i ≤ x.length) (fun i => x.length - i) 0 ?_ (Nat.zero_le _) fun i hi => ?_
 ·rw [mix_zero]
  repeat' (first|exact trivial|rfl|refine And.intro ?_ ?_)
 ·by_cases hlt : i < x.length
  ·obtain ⟨y, hy⟩ : ∃ y, x[i]? = some y := ⟨_, List.getElem?_eq_getElem hlt⟩
   have hr := mix_get hml i (by simp; omega)
   rw [get_rep hlt] at hr
   repeat' ((conv=>whnf);first|with_reducible (first|refine Lm ?_|refine Wm (by omega) ?_|refine dT (by omega) (fun h => ?_)|refine Ix.nat (get_map hy) ?_|refine Ix.nat hr ?_|refine Bn ?_|refine Fm rfl ?_)|refine Bt ?_|refine Bu ?_|refine Cl.mk (toSpan_ok y trivial) ?_|refine Pu.one rfl rfl hr rfl (Nat.le_refl _) rfl ?_|refine Nx.mk (i + 1) (by omega) (by omega) ?_)
   repeat' (first|exact trivial|rfl|exact And.intro rfl (And.intro (congrArg (C.s Own.own) (mix_set hml (get_map hy))) trivial)|refine And.intro ?_ ?_)
  ·repeat' ((conv=>whnf);first|with_reducible (first|refine Lm ?_|refine Wm (by omega) ?_|refine dF (by omega) (fun h => ?_)|refine Bn ?_|refine Fm rfl ?_)|refine Bt ?_|refine Bu ?_)
   rw [mix_end _ hml (by simp; omega)]
   rfl
theorem toLarge_ok (x : DLarge) (hs : DLarge.sml x) : CallsA Tryz.prog 122 false [.val (some 3) (DLarge.enc .imm x)] .agg (DLarge.enc .own x) := by
 refine fO (n := 14) [] Tryz.func122 (by kernel_rfl) rfl (by kernel_rfl) (by rfl) (.inr (DLarge.enc_fr x)) ?_
 repeat' ((conv=>whnf);first|with_reducible (first|refine Lm ?_|refine Wm (by omega) ?_|refine Bn ?_|refine Fm rfl ?_)|refine Bt ?_|refine Bu ?_)
 rfl
theorem toLargeS_ok (x : List DLarge) (hx : smlDLargeS x) : CallsA Tryz.prog 42 false [.val none (rDLargeS .imm x)] .one (rDLargeS .own x) := by
 refine fO (n := 23) [] Tryz.func42 (by kernel_rfl) rfl (by kernel_rfl) (by rfl) (.inr (rDLargeS_fr x)) ?_
 have hl : x.length ≤ 1048576 := hx.1
 have hml : (x.map (DLarge.enc .own)).length = (List.replicate x.length ([I 0, I 0, I 0] : List C)).length := by simp
 repeat' ((conv=>whnf);first|with_reducible (first|refine Lm ?_|refine Wm (by omega) ?_|refine Bn ?_|refine Fm rfl ?_)|refine Bt ?_|refine Bu ?_|refine Mk.mk _ rfl rfl (by omega) (mkB hl (by decide)) rfl ?_)
 (conv=>whnf)
 refine Lp.mk (ι := Nat) (fun i => [(0, .hold .one (rDLargeS .imm x)), (3, .hold .one [.s .own (mixR (x.map (DLarge.enc .own)) (List.replicate x.length [I 0, I 0, I 0]) i)]), (4, .hold .one [I (i : Nat)])]) (fun i => i ≤ x.length) (fun i => x.length - i) 0 ?_ (Nat.zero_le _) fun i hi => ?_
 ·rw [mix_zero]
  repeat' (first|exact trivial|rfl|refine And.intro ?_ ?_)
 ·by_cases hlt : i < x.length
  ·obtain ⟨y, hy⟩ : ∃ y, x[i]? = some y := ⟨_, List.getElem?_eq_getElem hlt⟩
   have hr := mix_get hml i (by simp; omega)
   rw [get_rep hlt] at hr
   repeat' ((conv=>whnf);first|with_reducible (first|refine Lm ?_|refine Wm (by omega) ?_|refine dT (by omega) (fun h => ?_)|refine Ix.nat (get_map hy) ?_|refine Ix.nat hr ?_|refine Bn ?_|refine Fm rfl ?_)|refine Bt ?_|refine Bu ?_|refine Cl.mk (toLarge_ok y trivial) ?_|refine Pu.one rfl rfl hr rfl (Nat.le_refl _) rfl ?_|refine Nx.mk (i + 1) (by omega) (by omega) ?_)
   repeat' (first|exact trivial|rfl|exact And.intro rfl (And.intro (congrArg (C.s Own.own) (mix_set hml (get_map hy))) trivial)|refine And.intro ?_ ?_)
  ·repeat' ((conv=>whnf);first|with_reducible (first|refine Lm ?_|refine Wm (by omega) ?_|refine dF (by omega) (fun h => ?_)|refine Bn ?_|refine Fm rfl ?_)|refine Bt ?_|refine Bu ?_)
   rw [mix_end _ hml (by simp; omega)]
   rfl
theorem toObj_ok (x : DObj) (hs : DObj.sml x) : CallsA Tryz.prog 123 false [.val (some 4) (DObj.enc .imm x)] .agg (DObj.enc .own x) := by
 refine fO (n := 17) [] Tryz.func123 (by kernel_rfl) rfl (by kernel_rfl) (by rfl) (.inr (DObj.enc_fr x)) ?_
 repeat' ((conv=>whnf);first|with_reducible (first|refine Lm ?_|refine Wm (by omega) ?_|refine Bn ?_|refine Fm rfl ?_)|refine Bt ?_|refine Bu ?_)
 rfl
theorem toObjS_ok (x : List DObj) (hx : smlDObjS x) : CallsA Tryz.prog 43 false [.val none (rDObjS .imm x)] .one (rDObjS .own x) := by
 refine fO (n := 23) [] Tryz.func43 (by kernel_rfl) rfl (by kernel_rfl) (by rfl) (.inr (rDObjS_fr x)) ?_
 have hl : x.length ≤ 1048576 := hx.1
 have hml : (x.map (DObj.enc .own)).length = (List.replicate x.length ([I 0, I 0, I 0, I 0] : List C)).length := by simp
 repeat' ((conv=>whnf);first|with_reducible (first|refine Lm ?_|refine Wm (by omega) ?_|refine Bn ?_|refine Fm rfl ?_)|refine Bt ?_|refine Bu ?_|refine Mk.mk _ rfl rfl (by omega) (mkB hl (by decide)) rfl ?_)
 (conv=>whnf)
 refine Lp.mk (ι := Nat) (fun i => [(0, .hold .one (rDObjS .imm x)), (3, .hold .one [.s .own (mixR (x.map (DObj.enc .own)) (List.replicate x.length [I 0, I 0, I 0, I 0]) i)]), (4, .hold .one [I (i : Nat)])]) (fun i => i ≤ x.length) (fun i => x.length - i) 0 ?_ (Nat.zero_le _) fun i hi => ?_
 ·rw [mix_zero]
  repeat' (first|exact trivial|rfl|refine And.intro ?_ ?_)
 ·by_cases hlt : i < x.length
  ·obtain ⟨y, hy⟩ : ∃ y, x[i]? = some y := ⟨_, List.getElem?_eq_getElem hlt⟩
   have hr := mix_get hml i (by simp; omega)
   rw [get_rep hlt] at hr
   repeat' ((conv=>whnf);first|with_reducible (first|refine Lm ?_|refine Wm (by omega) ?_|refine dT (by omega) (fun h => ?_)|refine Ix.nat (get_map hy) ?_|refine Ix.nat hr ?_|refine Bn ?_|refine Fm rfl ?_)|refine Bt ?_|refine Bu ?_|refine Cl.mk (toObj_ok y trivial) ?_|refine Pu.one rfl rfl hr rfl (Nat.le_refl _) rfl ?_|refine Nx.mk (i + 1) (by omega) (by omega) ?_)
   repeat' (first|exact trivial|rfl|exact And.intro rfl (And.intro (congrArg (C.s Own.own) (mix_set hml (get_map hy))) trivial)|refine And.intro ?_ ?_)
  ·repeat' ((conv=>whnf);first|with_reducible (first|refine Lm ?_|refine Wm (by omega) ?_|refine dF (by omega) (fun h => ?_)|refine Bn ?_|refine Fm rfl ?_)|refine Bt ?_|refine Bu ?_)
   rw [mix_end _ hml (by simp; omega)]
   rfl
theorem toCache_ok (x : DCache) (hs : DCache.sml x) : CallsA Tryz.prog 124 false [.val (some 1) (DCache.enc .imm x)] .agg (DCache.enc .own x) := by
 have h0 := hs
 refine fO (n := 9) [] Tryz.func124 (by kernel_rfl) rfl (by kernel_rfl) (by rfl) (.inr (DCache.enc_fr x)) ?_
 repeat' ((conv=>whnf);first|with_reducible (first|refine Lm ?_|refine Wm (by omega) ?_|refine Bn ?_|refine Fm rfl ?_)|refine Bt ?_|refine Bu ?_|refine Cl.mk (toIntSS_ok x.Lists h0) ?_)
 rfl
theorem toCacheS_ok (x : List DCache) (hx : smlDCacheS x) : CallsA Tryz.prog 44 false [.val none (rDCacheS .imm x)] .one (rDCacheS .own x) := by
 refine fO (n := 23) [] Tryz.func44 (by kernel_rfl) rfl (by kernel_rfl) (by rfl) (.inr (rDCacheS_fr x)) ?_
 have hl : x.length ≤ 1048576 := hx.1
 have hml : (x.map (DCache.enc .own)).length = (List.replicate x.length ([.z] : List C)).length := by simp
 repeat' ((conv=>whnf);first|with_reducible (first|refine Lm ?_|refine Wm (by omega) ?_|refine Bn ?_|refine Fm rfl ?_)|refine Bt ?_|refine Bu ?_|refine Mk.mk _ rfl rfl (by omega) (mkB hl (by decide)) rfl ?_)
 (conv=>whnf)
 refine Lp.mk (ι := Nat) (fun i => [(0, .hold .one (rDCacheS .imm x)), (3, .hold .one [.s .own (mixR (x.map (DCache.enc .own)) (List.replicate x.length [.z]) i)]), (4, .hold .one [I (i : Nat)])]) (fun i => i ≤ x.length) (fun i => x.length - i) 0 ?_ (Nat.zero_le _) fun i hi => ?_
 ·rw [mix_zero]
  repeat' (first|exact trivial|rfl|refine And.intro ?_ ?_)
 ·by_cases hlt : i < x.length
  ·obtain ⟨y, hy⟩ : ∃ y, x[i]? = some y := ⟨_, List.getElem?_eq_getElem hlt⟩
   have hr := mix_get hml i (by simp; omega)
   rw [get_rep hlt] at hr
   repeat' ((conv=>whnf);first|with_reducible (first|refine Lm ?_|refine Wm (by omega) ?_|refine dT (by omega) (fun h => ?_)|refine Ix.nat (get_map hy) ?_|refine Ix.nat hr ?_|refine Bn ?_|refine Fm rfl ?_)|refine Bt ?_|refine Bu ?_|refine Cl.mk (toCache_ok y (hx.2 y (List.mem_of_getElem? hy))) ?_|refine Pu.one rfl rfl hr rfl (Nat.le_refl _) rfl ?_|refine Nx.mk (i + 1) (by omega) (by omega) ?_)
   repeat' (first|exact trivial|rfl|exact And.intro rfl (And.intro (congrArg (C.s Own.own) (mix_set hml (get_map hy))) trivial)|refine And.intro ?_ ?_)
  ·repeat' ((conv=>whnf);first|with_reducible (first|refine Lm ?_|refine Wm (by omega) ?_|refine dF (by omega) (fun h => ?_)|refine Bn ?_|refine Fm rfl ?_)|refine Bt ?_|refine Bu ?_)
   rw [mix_end _ hml (by simp; omega)]
   rfl
theorem toPost_ok (x : DPost) (hs : DPost.sml x) : CallsA Tryz.prog 302 false [.val (some 2) (DPost.enc .imm x)] .agg (DPost.enc .own x) := by
 refine fO (n := 11) [] Tryz.func302 (by kernel_rfl) rfl (by kernel_rfl) (by rfl) (.inr (DPost.enc_fr x)) ?_
 repeat' ((conv=>whnf);first|with_reducible (first|refine Lm ?_|refine Wm (by omega) ?_|refine Bn ?_|refine Fm rfl ?_)|refine Bt ?_|refine Bu ?_)
 rfl
theorem toPostS_ok (x : List DPost) (hx : smlDPostS x) : CallsA Tryz.prog 226 false [.val none (rDPostS .imm x)] .one (rDPostS .own x) := by
 refine fO (n := 23) [] Tryz.func226 (by kernel_rfl) rfl (by kernel_rfl) (by rfl) (.inr (rDPostS_fr x)) ?_
 have hl : x.length ≤ 1048576 := hx.1
 have hml : (x.map (DPost.enc .own)).length = (List.replicate x.length ([I 0, I 0] : List C)).length := by simp
 repeat' ((conv=>whnf);first|with_reducible (first|refine Lm ?_|refine Wm (by omega) ?_|refine Bn ?_|refine Fm rfl ?_)|refine Bt ?_|refine Bu ?_|refine Mk.mk _ rfl rfl (by omega) (mkB hl (by decide)) rfl ?_)
 (conv=>whnf)
 refine Lp.mk (ι := Nat) (fun i => [(0, .hold .one (rDPostS .imm x)), (3, .hold .one [.s .own (mixR (x.map (DPost.enc .own)) (List.replicate x.length [I 0, I 0]) i)]), (4, .hold .one [I (i : Nat)])]) (fun i => i ≤ x.length) (fun i => x.length - i) 0 ?_ (Nat.zero_le _) fun i hi => ?_
 ·rw [mix_zero]
  repeat' (first|exact trivial|rfl|refine And.intro ?_ ?_)
 ·by_cases hlt : i < x.length
  ·obtain ⟨y, hy⟩ : ∃ y, x[i]? = some y := ⟨_, List.getElem?_eq_getElem hlt⟩
   have hr := mix_get hml i (by simp; omega)
   rw [get_rep hlt] at hr
   repeat' ((conv=>whnf);first|with_reducible (first|refine Lm ?_|refine Wm (by omega) ?_|refine dT (by omega) (fun h => ?_)|refine Ix.nat (get_map hy) ?_|refine Ix.nat hr ?_|refine Bn ?_|refine Fm rfl ?_)|refine Bt ?_|refine Bu ?_|refine Cl.mk (toPost_ok y trivial) ?_|refine Pu.one rfl rfl hr rfl (Nat.le_refl _) rfl ?_|refine Nx.mk (i + 1) (by omega) (by omega) ?_)
   repeat' (first|exact trivial|rfl|exact And.intro rfl (And.intro (congrArg (C.s Own.own) (mix_set hml (get_map hy))) trivial)|refine And.intro ?_ ?_)
  ·repeat' ((conv=>whnf);first|with_reducible (first|refine Lm ?_|refine Wm (by omega) ?_|refine dF (by omega) (fun h => ?_)|refine Bn ?_|refine Fm rfl ?_)|refine Bt ?_|refine Bu ?_)
   rw [mix_end _ hml (by simp; omega)]
   rfl
theorem toPostSS_ok (x : List (List DPost)) (hx : smlDPostSS x) : CallsA Tryz.prog 125 false [.val none (rDPostSS .imm x)] .one (rDPostSS .own x) := by
 refine fO (n := 23) [] Tryz.func125 (by kernel_rfl) rfl (by kernel_rfl) (by rfl) (.inr (rDPostSS_fr x)) ?_
 have hl : x.length ≤ 1048576 := hx.1
 have hml : (x.map (rDPostS .own)).length = (List.replicate x.length ([.z] : List C)).length := by simp
 repeat' ((conv=>whnf);first|with_reducible (first|refine Lm ?_|refine Wm (by omega) ?_|refine Bn ?_|refine Fm rfl ?_)|refine Bt ?_|refine Bu ?_|refine Mk.mk _ rfl rfl (by omega) (mkB hl (by decide)) rfl ?_)
 (conv=>whnf)
 refine Lp.mk (ι := Nat) (fun i => [(0, .hold .one (rDPostSS .imm x)), (3, .hold .one [.s .own (mixR (x.map (rDPostS .own)) (List.replicate x.length [.z]) i)]), (4, .hold .one [I (i : Nat)])]) (fun i => i ≤ x.length) (fun i => x.length - i) 0 ?_ (Nat.zero_le _) fun i hi => ?_
 ·rw [mix_zero]
  repeat' (first|exact trivial|rfl|refine And.intro ?_ ?_)
 ·by_cases hlt : i < x.length
  ·obtain ⟨y, hy⟩ : ∃ y, x[i]? = some y := ⟨_, List.getElem?_eq_getElem hlt⟩
   have hr := mix_get hml i (by simp; omega)
   rw [get_rep hlt] at hr
   repeat' ((conv=>whnf);first|with_reducible (first|refine Lm ?_|refine Wm (by omega) ?_|refine dT (by omega) (fun h => ?_)|refine Ix.nat (get_map hy) ?_|refine Ix.nat hr ?_|refine Bn ?_|refine Fm rfl ?_)|refine Bt ?_|refine Bu ?_|refine Cl.mk (toPostS_ok y (hx.2 y (List.mem_of_getElem? hy))) ?_|refine Pu.one rfl rfl hr rfl (Nat.le_refl _) rfl ?_|refine Nx.mk (i + 1) (by omega) (by omega) ?_)
   repeat' (first|exact trivial|rfl|exact And.intro rfl (And.intro (congrArg (C.s Own.own) (mix_set hml (get_map hy))) trivial)|refine And.intro ?_ ?_)
  ·repeat' ((conv=>whnf);first|with_reducible (first|refine Lm ?_|refine Wm (by omega) ?_|refine dF (by omega) (fun h => ?_)|refine Bn ?_|refine Fm rfl ?_)|refine Bt ?_|refine Bu ?_)
   rw [mix_end _ hml (by simp; omega)]
   rfl
theorem toMail_ok (x : DMail) (hs : DMail.sml x) : CallsA Tryz.prog 45 false [.val (some 2) (DMail.enc .imm x)] .agg (DMail.enc .own x) := by
 obtain ⟨h0, h1⟩ := hs
 refine fO (n := 13) [] Tryz.func45 (by kernel_rfl) rfl (by kernel_rfl) (by rfl) (.inr (DMail.enc_fr x)) ?_
 repeat' ((conv=>whnf);first|with_reducible (first|refine Lm ?_|refine Wm (by omega) ?_|refine Bn ?_|refine Fm rfl ?_)|refine Bt ?_|refine Bu ?_|refine Cl.mk (toPostSS_ok x.Buffers h0) ?_|refine Cl.mk (toIntSS_ok x.Inbox h1) ?_)
 rfl
theorem toStale_ok (x : DStale) (hs : DStale.sml x) : CallsA Tryz.prog 227 false [.val (some 3) (DStale.enc .imm x)] .agg (DStale.enc .own x) := by
 refine fO (n := 14) [] Tryz.func227 (by kernel_rfl) rfl (by kernel_rfl) (by rfl) (.inr (DStale.enc_fr x)) ?_
 repeat' ((conv=>whnf);first|with_reducible (first|refine Lm ?_|refine Wm (by omega) ?_|refine Bn ?_|refine Fm rfl ?_)|refine Bt ?_|refine Bu ?_)
 rfl
theorem toStaleS_ok (x : List DStale) (hx : smlDStaleS x) : CallsA Tryz.prog 127 false [.val none (rDStaleS .imm x)] .one (rDStaleS .own x) := by
 refine fO (n := 23) [] Tryz.func127 (by kernel_rfl) rfl (by kernel_rfl) (by rfl) (.inr (rDStaleS_fr x)) ?_
 have hl : x.length ≤ 1048576 := hx.1
 have hml : (x.map (DStale.enc .own)).length = (List.replicate x.length ([I 0, I 0, I 0] : List C)).length := by simp
 repeat' ((conv=>whnf);first|with_reducible (first|refine Lm ?_|refine Wm (by omega) ?_|refine Bn ?_|refine Fm rfl ?_)|refine Bt ?_|refine Bu ?_|refine Mk.mk _ rfl rfl (by omega) (mkB hl (by decide)) rfl ?_)
 (conv=>whnf)
 refine Lp.mk (ι := Nat) (fun i => [(0, .hold .one (rDStaleS .imm x)), (3, .hold .one [.s .own (mixR (x.map (DStale.enc .own)) (List.replicate x.length [I 0, I 0, I 0]) i)]), (4, .hold .one [I (i : Nat)])]) (fun i => i ≤ x.length) (fun i => x.length - i) 0 ?_ (Nat.zero_le _) fun i hi => ?_
 ·rw [mix_zero]
  repeat' (first|exact trivial|rfl|refine And.intro ?_ ?_)
 ·by_cases hlt : i < x.length
  ·obtain ⟨y, hy⟩ : ∃ y, x[i]? = some y := ⟨_, List.getElem?_eq_getElem hlt⟩
   have hr := mix_get hml i (by simp; omega)
   rw [get_rep hlt] at hr
   repeat' ((conv=>whnf);first|with_reducible (first|refine Lm ?_|refine Wm (by omega) ?_|refine dT (by omega) (fun h => ?_)|refine Ix.nat (get_map hy) ?_|refine Ix.nat hr ?_|refine Bn ?_|refine Fm rfl ?_)|refine Bt ?_|refine Bu ?_|refine Cl.mk (toStale_ok y trivial) ?_|refine Pu.one rfl rfl hr rfl (Nat.le_refl _) rfl ?_|refine Nx.mk (i + 1) (by omega) (by omega) ?_)
   repeat' (first|exact trivial|rfl|exact And.intro rfl (And.intro (congrArg (C.s Own.own) (mix_set hml (get_map hy))) trivial)|refine And.intro ?_ ?_)
  ·repeat' ((conv=>whnf);first|with_reducible (first|refine Lm ?_|refine Wm (by omega) ?_|refine dF (by omega) (fun h => ?_)|refine Bn ?_|refine Fm rfl ?_)|refine Bt ?_|refine Bu ?_)
   rw [mix_end _ hml (by simp; omega)]
   rfl
theorem toQuar_ok (x : DQuar) (hs : DQuar.sml x) : CallsA Tryz.prog 46 false [.val (some 2) (DQuar.enc .imm x)] .agg (DQuar.enc .own x) := by
 have h0 := hs
 refine fO (n := 12) [] Tryz.func46 (by kernel_rfl) rfl (by kernel_rfl) (by rfl) (.inr (DQuar.enc_fr x)) ?_
 repeat' ((conv=>whnf);first|with_reducible (first|refine Lm ?_|refine Wm (by omega) ?_|refine Bn ?_|refine Fm rfl ?_)|refine Bt ?_|refine Bu ?_|refine Cl.mk (toStaleS_ok x.Lst h0) ?_)
 rfl
theorem toPlan_ok (x : DPlan) (hs : DPlan.sml x) : CallsA Tryz.prog 128 false [.val (some 3) (DPlan.enc .imm x)] .agg (DPlan.enc .own x) := by
 have h0 := hs
 refine fO (n := 15) [] Tryz.func128 (by kernel_rfl) rfl (by kernel_rfl) (by rfl) (.inr (DPlan.enc_fr x)) ?_
 repeat' ((conv=>whnf);first|with_reducible (first|refine Lm ?_|refine Wm (by omega) ?_|refine Bn ?_|refine Fm rfl ?_)|refine Bt ?_|refine Bu ?_|refine Cl.mk (toIntS_ok x.Cells h0) ?_)
 rfl
theorem toJob_ok (x : DJob) (hs : DJob.sml x) : CallsA Tryz.prog 47 false [.val (some 5) (DJob.enc .imm x)] .agg (DJob.enc .own x) := by
 have h0 := hs
 refine fO (n := 15) [] Tryz.func47 (by kernel_rfl) rfl (by kernel_rfl) (by rfl) (.inr (DJob.enc_fr x)) ?_
 repeat' ((conv=>whnf);first|with_reducible (first|refine Lm ?_|refine Wm (by omega) ?_|refine Bn ?_|refine Fm rfl ?_)|refine Bt ?_|refine Bu ?_|refine Cl.mk (toPlan_ok x.Plan h0) ?_)
 rfl
theorem toHeap_ok (x : DHeap) (hs : DHeap.sml x) : CallsA Tryz.prog 9 false [.val (some 24) (DHeap.enc .imm x)] .agg (DHeap.enc .own x) := by
 obtain ⟨h0, h1, h2, h3, h4, h5, h6, h7, h8⟩ := hs
 refine fO (n := 56) [] Tryz.func9 (by kernel_rfl) rfl (by kernel_rfl) (by rfl) (.inr (DHeap.enc_fr x)) ?_
 repeat' ((conv=>whnf);first|with_reducible (first|refine Lm ?_|refine Wm (by omega) ?_|refine Bn ?_|refine Fm rfl ?_)|refine Bt ?_|refine Bu ?_|refine Cl.mk (toKernel_ok x.Kernel h0) ?_|refine Cl.mk (toRangeS_ok x.Free h1) ?_|refine Cl.mk (toSpanS_ok x.Spans h2) ?_|refine Cl.mk (toLargeS_ok x.Larges h3) ?_|refine Cl.mk (toObjS_ok x.Objs h4) ?_|refine Cl.mk (toCacheS_ok x.Caches h5) ?_|refine Cl.mk (toMail_ok x.Mail h6) ?_|refine Cl.mk (toQuar_ok x.Quar h7) ?_|refine Cl.mk (toJob_ok x.Job h8) ?_)
 rfl
end Go.Proofs.YtjgjnlppphejpaaGreat.Ab
/- Contracts of the laws' generic functions (sz). Printed by gen_con.py. No condition. -/
namespace Go.Proofs.YtjgjnlppphejpaaGreat.Ab
open Go.RowKit
set_option maxRecDepth 20000
set_option maxHeartbeats 2000000

theorem szIntS_ok (x : List Int) (left : Int) (h0 : 0 ≤ left) (h1 : left ≤ 1048576) (hw : wfIntS x) : CallsA Tryz.prog 97 false [.val none (rIntS .imm x), .val none [I left]] .one [I (szR (szIntS x) left)] := by
 refine fO (n := 12) [] Tryz.func97 (by kernel_rfl) rfl (by kernel_rfl) (by rfl) (.inr ⟨trivial, trivial⟩) ?_
 have hl := hw.1
 repeat' ((conv=>whnf);first|with_reducible (first|refine Lm ?_|refine Wm (by omega) ?_|refine dF (by omega) (fun h => ?_)|refine dT (by omega) (fun h => ?_)|refine Bf.D (fun h => ?_) (fun h => ?_)|refine Bn ?_|refine Fm rfl ?_)|refine Bt ?_|refine Bu ?_)
 all_goals exact congrArg (fun z => [I z]) (by unfold szR szIntS; split <;> omega)
theorem szIntSS_ok (x : List (List Int)) (left : Int) (h0 : 0 ≤ left) (h1 : left ≤ 1048576) (hw : wfIntSS x) : CallsA Tryz.prog 100 false [.val none (rIntSS .imm x), .val none [I left]] .one [I (szR (szIntSS x) left)] := by
 refine fO (n := 27) [] Tryz.func100 (by kernel_rfl) rfl (by kernel_rfl) (by rfl) (.inr ⟨trivial, trivial⟩) ?_
 have hl := hw.1
 repeat' ((conv=>whnf);first|with_reducible (first|refine Lm ?_|refine Wm (by omega) ?_|refine dF (by omega) (fun h => ?_)|refine dT (by omega) (fun h => ?_)|refine Bf.D (fun h => ?_) (fun h => ?_)|refine Bn ?_|refine Fm rfl ?_)|refine Bt ?_|refine Bu ?_)
 ·exact congrArg (fun z => [I z]) (by unfold szR szIntSS; split <;> omega)
 (conv=>whnf)
 refine Lp.mk (ι := Nat) (fun i => [(0, .hold .one (rIntSS .imm x)), (1, .hold .one [I (left - x.length - (spreIntSS x i : Nat))]), (5, .hold .one [I (i : Nat)])]) (fun i => i ≤ x.length ∧ (x.length + spreIntSS x i : Int) ≤ left) (fun i => x.length - i) 0 ?_ ⟨Nat.zero_le _, by rw [spreIntSS_zero]; omega⟩ fun i hi => ?_
 ·rw [spreIntSS_zero]
  repeat' (first|exact trivial|rfl|exact And.intro rfl (And.intro (congrArg I (by omega)) trivial)|refine And.intro ?_ ?_)
 ·obtain ⟨hi, hpi⟩ := hi
  have hpl := spreIntSS_le x i
  by_cases hlt : i < x.length
  ·obtain ⟨y, hy⟩ : ∃ y, x[i]? = some y := ⟨_, List.getElem?_eq_getElem hlt⟩
   have hps := spreIntSS_succ x i y hy
   have hpl2 := spreIntSS_le x (i + 1)
   repeat' ((conv=>whnf);first|with_reducible (first|refine Lm ?_|refine Wm (by omega) ?_|refine Ix.nat (get_map hy) ?_|refine dF (by omega) (fun h => ?_)|refine dT (by omega) (fun h => ?_)|refine Bf.D (fun h => ?_) (fun h => ?_)|refine Bn ?_|refine Fm rfl ?_)|refine Bt ?_|refine Bu ?_|refine Cl.sz (szIntS_ok y _ (by omega) (by omega) (hw.2 y (List.mem_of_getElem? hy))) (fun h => ?_) (fun h => ?_)|refine Nx.mk (i + 1) ⟨by omega, by omega⟩ (by omega) ?_)
   ·exact congrArg (fun z => [I z]) (by unfold szR szIntSS; split <;> omega)
   ·rw [hps]
    repeat' (first|exact trivial|rfl|exact And.intro rfl (And.intro (congrArg I (by omega)) trivial)|refine And.intro ?_ ?_)
  ·repeat' ((conv=>whnf);first|with_reducible (first|refine Lm ?_|refine Wm (by omega) ?_|refine dF (by omega) (fun h => ?_)|refine dT (by omega) (fun h => ?_)|refine Bf.D (fun h => ?_) (fun h => ?_)|refine Bn ?_|refine Fm rfl ?_)|refine Bt ?_|refine Bu ?_)
   have he : i = x.length := by omega
   subst he
   rw [spreIntSS_all] at hpi ⊢
   exact congrArg (fun z => [I z]) (by unfold szR szIntSS; split <;> omega)
theorem szBoolS_ok (x : List Bool) (left : Int) (h0 : 0 ≤ left) (h1 : left ≤ 1048576) (hw : wfBoolS x) : CallsA Tryz.prog 294 false [.val none (rBoolS .imm x), .val none [I left]] .one [I (szR (szBoolS x) left)] := by
 refine fO (n := 12) [] Tryz.func294 (by kernel_rfl) rfl (by kernel_rfl) (by rfl) (.inr ⟨trivial, trivial⟩) ?_
 have hl := hw.1
 repeat' ((conv=>whnf);first|with_reducible (first|refine Lm ?_|refine Wm (by omega) ?_|refine dF (by omega) (fun h => ?_)|refine dT (by omega) (fun h => ?_)|refine Bf.D (fun h => ?_) (fun h => ?_)|refine Bn ?_|refine Fm rfl ?_)|refine Bt ?_|refine Bu ?_)
 all_goals exact congrArg (fun z => [I z]) (by unfold szR szBoolS; split <;> omega)
theorem szFrames_ok (x : DFrames) (left : Int) (h0 : 0 ≤ left) (h1 : left ≤ 1048576) (hw : DFrames.wf x) : CallsA Tryz.prog 210 false [.val (some 2) (DFrames.enc .imm x), .val none [I left]] .one [I (szR (DFrames.sz x) left)] := by
 obtain ⟨wCells, wUsed⟩ := hw
 refine fO (n := 18) [] Tryz.func210 (by kernel_rfl) rfl (by kernel_rfl) (by rfl) (.inr ⟨trivial, trivial⟩) ?_
 repeat' ((conv=>whnf);first|with_reducible (first|refine Lm ?_|refine Wm (by omega) ?_|refine dF (by omega) (fun h => ?_)|refine dT (by omega) (fun h => ?_)|refine Bf.D (fun h => ?_) (fun h => ?_)|refine Bn ?_|refine Fm rfl ?_)|refine Bt ?_|refine Bu ?_|refine Cl.sz (szIntSS_ok x.Cells _ (by omega) (by omega) wCells) (fun h => ?_) (fun h => ?_)|refine Cl.sz (szBoolS_ok x.Used _ (by omega) (by omega) wUsed) (fun h => ?_) (fun h => ?_))
 all_goals exact congrArg (fun z => [I z]) (by unfold szR DFrames.sz; split <;> omega)
theorem szEntryS_ok (x : List DEntry) (left : Int) (h0 : 0 ≤ left) (h1 : left ≤ 1048576) (hw : wfDEntryS x) : CallsA Tryz.prog 295 false [.val none (rDEntryS .imm x), .val none [I left]] .one [I (szR (szDEntryS x) left)] := by
 refine fO (n := 12) [] Tryz.func295 (by kernel_rfl) rfl (by kernel_rfl) (by rfl) (.inr ⟨trivial, trivial⟩) ?_
 have hl := hw.1
 repeat' ((conv=>whnf);first|with_reducible (first|refine Lm ?_|refine Wm (by omega) ?_|refine dF (by omega) (fun h => ?_)|refine dT (by omega) (fun h => ?_)|refine Bf.D (fun h => ?_) (fun h => ?_)|refine Bn ?_|refine Fm rfl ?_)|refine Bt ?_|refine Bu ?_)
 all_goals exact congrArg (fun z => [I z]) (by unfold szR szDEntryS; split <;> omega)
theorem szTable_ok (x : DTable) (left : Int) (h0 : 0 ≤ left) (h1 : left ≤ 1048576) (hw : DTable.wf x) : CallsA Tryz.prog 211 false [.val (some 1) (DTable.enc .imm x), .val none [I left]] .one [I (szR (DTable.sz x) left)] := by
 refine fO (n := 12) [] Tryz.func211 (by kernel_rfl) rfl (by kernel_rfl) (by rfl) (.inr ⟨trivial, trivial⟩) ?_
 repeat' ((conv=>whnf);first|with_reducible (first|refine Lm ?_|refine Wm (by omega) ?_|refine dF (by omega) (fun h => ?_)|refine dT (by omega) (fun h => ?_)|refine Bf.D (fun h => ?_) (fun h => ?_)|refine Bn ?_|refine Fm rfl ?_)|refine Bt ?_|refine Bu ?_|refine Cl.sz (szEntryS_ok x.Entries _ (by omega) (by omega) hw) (fun h => ?_) (fun h => ?_))
 all_goals exact congrArg (fun z => [I z]) (by unfold szR DTable.sz; split <;> omega)
theorem szMachine_ok (x : DMachine) (left : Int) (h0 : 0 ≤ left) (h1 : left ≤ 1048576) (hw : DMachine.wf x) : CallsA Tryz.prog 96 false [.val (some 3) (DMachine.enc .imm x), .val none [I left]] .one [I (szR (DMachine.sz x) left)] := by
 obtain ⟨wFrames, wTable⟩ := hw
 refine fO (n := 18) [] Tryz.func96 (by kernel_rfl) rfl (by kernel_rfl) (by rfl) (.inr ⟨trivial, trivial⟩) ?_
 repeat' ((conv=>whnf);first|with_reducible (first|refine Lm ?_|refine Wm (by omega) ?_|refine dF (by omega) (fun h => ?_)|refine dT (by omega) (fun h => ?_)|refine Bf.D (fun h => ?_) (fun h => ?_)|refine Bn ?_|refine Fm rfl ?_)|refine Bt ?_|refine Bu ?_|refine Cl.sz (szFrames_ok x.Frames _ (by omega) (by omega) wFrames) (fun h => ?_) (fun h => ?_)|refine Cl.sz (szTable_ok x.Table _ (by omega) (by omega) wTable) (fun h => ?_) (fun h => ?_))
 all_goals exact congrArg (fun z => [I z]) (by unfold szR DMachine.sz; split <;> omega)
theorem szKernel_ok (x : DKernel) (left : Int) (h0 : 0 ≤ left) (h1 : left ≤ 1048576) (hw : DKernel.wf x) : CallsA Tryz.prog 28 false [.val (some 5) (DKernel.enc .imm x), .val none [I left]] .one [I (szR (DKernel.sz x) left)] := by
 obtain ⟨wMachine, wCalls, wRefuse⟩ := hw
 refine fO (n := 18) [] Tryz.func28 (by kernel_rfl) rfl (by kernel_rfl) (by rfl) (.inr ⟨trivial, trivial⟩) ?_
 repeat' ((conv=>whnf);first|with_reducible (first|refine Lm ?_|refine Wm (by omega) ?_|refine dF (by omega) (fun h => ?_)|refine dT (by omega) (fun h => ?_)|refine Bf.D (fun h => ?_) (fun h => ?_)|refine Bn ?_|refine Fm rfl ?_)|refine Bt ?_|refine Bu ?_|refine Cl.sz (szMachine_ok x.Machine _ (by omega) (by omega) wMachine) (fun h => ?_) (fun h => ?_)|refine Cl.sz (szIntS_ok x.Refuse _ (by omega) (by omega) wRefuse) (fun h => ?_) (fun h => ?_))
 all_goals exact congrArg (fun z => [I z]) (by unfold szR DKernel.sz; split <;> omega)
theorem szRangeS_ok (x : List DRange) (left : Int) (h0 : 0 ≤ left) (h1 : left ≤ 1048576) (hw : wfDRangeS x) : CallsA Tryz.prog 29 false [.val none (rDRangeS .imm x), .val none [I left]] .one [I (szR (szDRangeS x) left)] := by
 refine fO (n := 12) [] Tryz.func29 (by kernel_rfl) rfl (by kernel_rfl) (by rfl) (.inr ⟨trivial, trivial⟩) ?_
 have hl := hw.1
 repeat' ((conv=>whnf);first|with_reducible (first|refine Lm ?_|refine Wm (by omega) ?_|refine dF (by omega) (fun h => ?_)|refine dT (by omega) (fun h => ?_)|refine Bf.D (fun h => ?_) (fun h => ?_)|refine Bn ?_|refine Fm rfl ?_)|refine Bt ?_|refine Bu ?_)
 all_goals exact congrArg (fun z => [I z]) (by unfold szR szDRangeS; split <;> omega)
theorem szSpanS_ok (x : List DSpan) (left : Int) (h0 : 0 ≤ left) (h1 : left ≤ 1048576) (hw : wfDSpanS x) : CallsA Tryz.prog 30 false [.val none (rDSpanS .imm x), .val none [I left]] .one [I (szR (szDSpanS x) left)] := by
 refine fO (n := 12) [] Tryz.func30 (by kernel_rfl) rfl (by kernel_rfl) (by rfl) (.inr ⟨trivial, trivial⟩) ?_
 have hl := hw.1
 repeat' ((conv=>whnf);first|with_reducible (first|refine Lm ?_|refine Wm (by omega) ?_|refine dF (by omega) (fun h => ?_)|refine dT (by omega) (fun h => ?_)|refine Bf.D (fun h => ?_) (fun h => ?_)|refine Bn ?_|refine Fm rfl ?_)|refine Bt ?_|refine Bu ?_)
 all_goals exact congrArg (fun z => [I z]) (by unfold szR szDSpanS; split <;> omega)
theorem szLargeS_ok (x : List DLarge) (left : Int) (h0 : 0 ≤ left) (h1 : left ≤ 1048576) (hw : wfDLargeS x) : CallsA Tryz.prog 31 false [.val none (rDLargeS .imm x), .val none [I left]] .one [I (szR (szDLargeS x) left)] := by
 refine fO (n := 12) [] Tryz.func31 (by kernel_rfl) rfl (by kernel_rfl) (by rfl) (.inr ⟨trivial, trivial⟩) ?_
 have hl := hw.1
 repeat' ((conv=>whnf);first|with_reducible (first|refine Lm ?_|refine Wm (by omega) ?_|refine dF (by omega) (fun h => ?_)|refine dT (by omega) (fun h => ?_)|refine Bf.D (fun h => ?_) (fun h => ?_)|refine Bn ?_|refine Fm rfl ?_)|refine Bt ?_|refine Bu ?_)
 all_goals exact congrArg (fun z => [I z]) (by unfold szR szDLargeS; split <;> omega)
theorem szObjS_ok (x : List DObj) (left : Int) (h0 : 0 ≤ left) (h1 : left ≤ 1048576) (hw : wfDObjS x) : CallsA Tryz.prog 32 false [.val none (rDObjS .imm x), .val none [I left]] .one [I (szR (szDObjS x) left)] := by
 refine fO (n := 12) [] Tryz.func32 (by kernel_rfl) rfl (by kernel_rfl) (by rfl) (.inr ⟨trivial, trivial⟩) ?_
 have hl := hw.1
 repeat' ((conv=>whnf);first|with_reducible (first|refine Lm ?_|refine Wm (by omega) ?_|refine dF (by omega) (fun h => ?_)|refine dT (by omega) (fun h => ?_)|refine Bf.D (fun h => ?_) (fun h => ?_)|refine Bn ?_|refine Fm rfl ?_)|refine Bt ?_|refine Bu ?_)
 all_goals exact congrArg (fun z => [I z]) (by unfold szR szDObjS; split <;> omega)
theorem szCache_ok (x : DCache) (left : Int) (h0 : 0 ≤ left) (h1 : left ≤ 1048576) (hw : DCache.wf x) : CallsA Tryz.prog 98 false [.val (some 1) (DCache.enc .imm x), .val none [I left]] .one [I (szR (DCache.sz x) left)] := by
 refine fO (n := 12) [] Tryz.func98 (by kernel_rfl) rfl (by kernel_rfl) (by rfl) (.inr ⟨trivial, trivial⟩) ?_
 repeat' ((conv=>whnf);first|with_reducible (first|refine Lm ?_|refine Wm (by omega) ?_|refine dF (by omega) (fun h => ?_)|refine dT (by omega) (fun h => ?_)|refine Bf.D (fun h => ?_) (fun h => ?_)|refine Bn ?_|refine Fm rfl ?_)|refine Bt ?_|refine Bu ?_|refine Cl.sz (szIntSS_ok x.Lists _ (by omega) (by omega) hw) (fun h => ?_) (fun h => ?_))
 all_goals exact congrArg (fun z => [I z]) (by unfold szR DCache.sz; split <;> omega)
theorem szCacheS_ok (x : List DCache) (left : Int) (h0 : 0 ≤ left) (h1 : left ≤ 1048576) (hw : wfDCacheS x) : CallsA Tryz.prog 33 false [.val none (rDCacheS .imm x), .val none [I left]] .one [I (szR (szDCacheS x) left)] := by
 refine fO (n := 27) [] Tryz.func33 (by kernel_rfl) rfl (by kernel_rfl) (by rfl) (.inr ⟨trivial, trivial⟩) ?_
 have hl := hw.1
 repeat' ((conv=>whnf);first|with_reducible (first|refine Lm ?_|refine Wm (by omega) ?_|refine dF (by omega) (fun h => ?_)|refine dT (by omega) (fun h => ?_)|refine Bf.D (fun h => ?_) (fun h => ?_)|refine Bn ?_|refine Fm rfl ?_)|refine Bt ?_|refine Bu ?_)
 ·exact congrArg (fun z => [I z]) (by unfold szR szDCacheS; split <;> omega)
 (conv=>whnf)
 refine Lp.mk (ι := Nat) (fun i => [(0, .hold .one (rDCacheS .imm x)), (1, .hold .one [I (left - x.length - (spreDCacheS x i : Nat))]), (5, .hold .one [I (i : Nat)])]) (fun i => i ≤ x.length ∧ (x.length + spreDCacheS x i : Int) ≤ left) (fun i => x.length - i) 0 ?_ ⟨Nat.zero_le _, by rw [spreDCacheS_zero]; omega⟩ fun i hi => ?_
 ·rw [spreDCacheS_zero]
  repeat' (first|exact trivial|rfl|exact And.intro rfl (And.intro (congrArg I (by omega)) trivial)|refine And.intro ?_ ?_)
 ·obtain ⟨hi, hpi⟩ := hi
  have hpl := spreDCacheS_le x i
  by_cases hlt : i < x.length
  ·obtain ⟨y, hy⟩ : ∃ y, x[i]? = some y := ⟨_, List.getElem?_eq_getElem hlt⟩
   have hps := spreDCacheS_succ x i y hy
   have hpl2 := spreDCacheS_le x (i + 1)
   repeat' ((conv=>whnf);first|with_reducible (first|refine Lm ?_|refine Wm (by omega) ?_|refine Ix.nat (get_map hy) ?_|refine dF (by omega) (fun h => ?_)|refine dT (by omega) (fun h => ?_)|refine Bf.D (fun h => ?_) (fun h => ?_)|refine Bn ?_|refine Fm rfl ?_)|refine Bt ?_|refine Bu ?_|refine Cl.sz (szCache_ok y _ (by omega) (by omega) (hw.2 y (List.mem_of_getElem? hy))) (fun h => ?_) (fun h => ?_)|refine Nx.mk (i + 1) ⟨by omega, by omega⟩ (by omega) ?_)
   ·exact congrArg (fun z => [I z]) (by unfold szR szDCacheS; split <;> omega)
   ·rw [hps]
    repeat' (first|exact trivial|rfl|exact And.intro rfl (And.intro (congrArg I (by omega)) trivial)|refine And.intro ?_ ?_)
  ·repeat' ((conv=>whnf);first|with_reducible (first|refine Lm ?_|refine Wm (by omega) ?_|refine dF (by omega) (fun h => ?_)|refine dT (by omega) (fun h => ?_)|refine Bf.D (fun h => ?_) (fun h => ?_)|refine Bn ?_|refine Fm rfl ?_)|refine Bt ?_|refine Bu ?_)
   have he : i = x.length := by omega
   subst he
   rw [spreDCacheS_all] at hpi ⊢
   exact congrArg (fun z => [I z]) (by unfold szR szDCacheS; split <;> omega)
theorem szPostS_ok (x : List DPost) (left : Int) (h0 : 0 ≤ left) (h1 : left ≤ 1048576) (hw : wfDPostS x) : CallsA Tryz.prog 212 false [.val none (rDPostS .imm x), .val none [I left]] .one [I (szR (szDPostS x) left)] := by
 refine fO (n := 12) [] Tryz.func212 (by kernel_rfl) rfl (by kernel_rfl) (by rfl) (.inr ⟨trivial, trivial⟩) ?_
 have hl := hw.1
 repeat' ((conv=>whnf);first|with_reducible (first|refine Lm ?_|refine Wm (by omega) ?_|refine dF (by omega) (fun h => ?_)|refine dT (by omega) (fun h => ?_)|refine Bf.D (fun h => ?_) (fun h => ?_)|refine Bn ?_|refine Fm rfl ?_)|refine Bt ?_|refine Bu ?_)
 all_goals exact congrArg (fun z => [I z]) (by unfold szR szDPostS; split <;> omega)
theorem szPostSS_ok (x : List (List DPost)) (left : Int) (h0 : 0 ≤ left) (h1 : left ≤ 1048576) (hw : wfDPostSS x) : CallsA Tryz.prog 99 false [.val none (rDPostSS .imm x), .val none [I left]] .one [I (szR (szDPostSS x) left)] := by
 refine fO (n := 27) [] Tryz.func99 (by kernel_rfl) rfl (by kernel_rfl) (by rfl) (.inr ⟨trivial, trivial⟩) ?_
 have hl := hw.1
 repeat' ((conv=>whnf);first|with_reducible (first|refine Lm ?_|refine Wm (by omega) ?_|refine dF (by omega) (fun h => ?_)|refine dT (by omega) (fun h => ?_)|refine Bf.D (fun h => ?_) (fun h => ?_)|refine Bn ?_|refine Fm rfl ?_)|refine Bt ?_|refine Bu ?_)
 ·exact congrArg (fun z => [I z]) (by unfold szR szDPostSS; split <;> omega)
 (conv=>whnf)
 refine Lp.mk (ι := Nat) (fun i => [(0, .hold .one (rDPostSS .imm x)), (1, .hold .one [I (left - x.length - (spreDPostSS x i : Nat))]), (5, .hold .one [I (i : Nat)])]) (fun i => i ≤ x.length ∧ (x.length + spreDPostSS x i : Int) ≤ left) (fun i => x.length - i) 0 ?_ ⟨Nat.zero_le _, by rw [spreDPostSS_zero]; omega⟩ fun i hi => ?_
 ·rw [spreDPostSS_zero]
  repeat' (first|exact trivial|rfl|exact And.intro rfl (And.intro (congrArg I (by omega)) trivial)|refine And.intro ?_ ?_)
 ·obtain ⟨hi, hpi⟩ := hi
  have hpl := spreDPostSS_le x i
  by_cases hlt : i < x.length
  ·obtain ⟨y, hy⟩ : ∃ y, x[i]? = some y := ⟨_, List.getElem?_eq_getElem hlt⟩
   have hps := spreDPostSS_succ x i y hy
   have hpl2 := spreDPostSS_le x (i + 1)
   repeat' ((conv=>whnf);first|with_reducible (first|refine Lm ?_|refine Wm (by omega) ?_|refine Ix.nat (get_map hy) ?_|refine dF (by omega) (fun h => ?_)|refine dT (by omega) (fun h => ?_)|refine Bf.D (fun h => ?_) (fun h => ?_)|refine Bn ?_|refine Fm rfl ?_)|refine Bt ?_|refine Bu ?_|refine Cl.sz (szPostS_ok y _ (by omega) (by omega) (hw.2 y (List.mem_of_getElem? hy))) (fun h => ?_) (fun h => ?_)|refine Nx.mk (i + 1) ⟨by omega, by omega⟩ (by omega) ?_)
   ·exact congrArg (fun z => [I z]) (by unfold szR szDPostSS; split <;> omega)
   ·rw [hps]
    repeat' (first|exact trivial|rfl|exact And.intro rfl (And.intro (congrArg I (by omega)) trivial)|refine And.intro ?_ ?_)
  ·repeat' ((conv=>whnf);first|with_reducible (first|refine Lm ?_|refine Wm (by omega) ?_|refine dF (by omega) (fun h => ?_)|refine dT (by omega) (fun h => ?_)|refine Bf.D (fun h => ?_) (fun h => ?_)|refine Bn ?_|refine Fm rfl ?_)|refine Bt ?_|refine Bu ?_)
   have he : i = x.length := by omega
   subst he
   rw [spreDPostSS_all] at hpi ⊢
   exact congrArg (fun z => [I z]) (by unfold szR szDPostSS; split <;> omega)
theorem szMail_ok (x : DMail) (left : Int) (h0 : 0 ≤ left) (h1 : left ≤ 1048576) (hw : DMail.wf x) : CallsA Tryz.prog 34 false [.val (some 2) (DMail.enc .imm x), .val none [I left]] .one [I (szR (DMail.sz x) left)] := by
 obtain ⟨wBuffers, wInbox⟩ := hw
 refine fO (n := 18) [] Tryz.func34 (by kernel_rfl) rfl (by kernel_rfl) (by rfl) (.inr ⟨trivial, trivial⟩) ?_
 repeat' ((conv=>whnf);first|with_reducible (first|refine Lm ?_|refine Wm (by omega) ?_|refine dF (by omega) (fun h => ?_)|refine dT (by omega) (fun h => ?_)|refine Bf.D (fun h => ?_) (fun h => ?_)|refine Bn ?_|refine Fm rfl ?_)|refine Bt ?_|refine Bu ?_|refine Cl.sz (szPostSS_ok x.Buffers _ (by omega) (by omega) wBuffers) (fun h => ?_) (fun h => ?_)|refine Cl.sz (szIntSS_ok x.Inbox _ (by omega) (by omega) wInbox) (fun h => ?_) (fun h => ?_))
 all_goals exact congrArg (fun z => [I z]) (by unfold szR DMail.sz; split <;> omega)
theorem szStaleS_ok (x : List DStale) (left : Int) (h0 : 0 ≤ left) (h1 : left ≤ 1048576) (hw : wfDStaleS x) : CallsA Tryz.prog 101 false [.val none (rDStaleS .imm x), .val none [I left]] .one [I (szR (szDStaleS x) left)] := by
 refine fO (n := 12) [] Tryz.func101 (by kernel_rfl) rfl (by kernel_rfl) (by rfl) (.inr ⟨trivial, trivial⟩) ?_
 have hl := hw.1
 repeat' ((conv=>whnf);first|with_reducible (first|refine Lm ?_|refine Wm (by omega) ?_|refine dF (by omega) (fun h => ?_)|refine dT (by omega) (fun h => ?_)|refine Bf.D (fun h => ?_) (fun h => ?_)|refine Bn ?_|refine Fm rfl ?_)|refine Bt ?_|refine Bu ?_)
 all_goals exact congrArg (fun z => [I z]) (by unfold szR szDStaleS; split <;> omega)
theorem szQuar_ok (x : DQuar) (left : Int) (h0 : 0 ≤ left) (h1 : left ≤ 1048576) (hw : DQuar.wf x) : CallsA Tryz.prog 35 false [.val (some 2) (DQuar.enc .imm x), .val none [I left]] .one [I (szR (DQuar.sz x) left)] := by
 obtain ⟨wRoom, wLst⟩ := hw
 refine fO (n := 12) [] Tryz.func35 (by kernel_rfl) rfl (by kernel_rfl) (by rfl) (.inr ⟨trivial, trivial⟩) ?_
 repeat' ((conv=>whnf);first|with_reducible (first|refine Lm ?_|refine Wm (by omega) ?_|refine dF (by omega) (fun h => ?_)|refine dT (by omega) (fun h => ?_)|refine Bf.D (fun h => ?_) (fun h => ?_)|refine Bn ?_|refine Fm rfl ?_)|refine Bt ?_|refine Bu ?_|refine Cl.sz (szStaleS_ok x.Lst _ (by omega) (by omega) wLst) (fun h => ?_) (fun h => ?_))
 all_goals exact congrArg (fun z => [I z]) (by unfold szR DQuar.sz; split <;> omega)
theorem szPlan_ok (x : DPlan) (left : Int) (h0 : 0 ≤ left) (h1 : left ≤ 1048576) (hw : DPlan.wf x) : CallsA Tryz.prog 102 false [.val (some 3) (DPlan.enc .imm x), .val none [I left]] .one [I (szR (DPlan.sz x) left)] := by
 obtain ⟨wKeep, wMove, wCells⟩ := hw
 refine fO (n := 12) [] Tryz.func102 (by kernel_rfl) rfl (by kernel_rfl) (by rfl) (.inr ⟨trivial, trivial⟩) ?_
 repeat' ((conv=>whnf);first|with_reducible (first|refine Lm ?_|refine Wm (by omega) ?_|refine dF (by omega) (fun h => ?_)|refine dT (by omega) (fun h => ?_)|refine Bf.D (fun h => ?_) (fun h => ?_)|refine Bn ?_|refine Fm rfl ?_)|refine Bt ?_|refine Bu ?_|refine Cl.sz (szIntS_ok x.Cells _ (by omega) (by omega) wCells) (fun h => ?_) (fun h => ?_))
 all_goals exact congrArg (fun z => [I z]) (by unfold szR DPlan.sz; split <;> omega)
theorem szJob_ok (x : DJob) (left : Int) (h0 : 0 ≤ left) (h1 : left ≤ 1048576) (hw : DJob.wf x) : CallsA Tryz.prog 36 false [.val (some 5) (DJob.enc .imm x), .val none [I left]] .one [I (szR (DJob.sz x) left)] := by
 obtain ⟨wPlan, wPhase, wNext⟩ := hw
 refine fO (n := 12) [] Tryz.func36 (by kernel_rfl) rfl (by kernel_rfl) (by rfl) (.inr ⟨trivial, trivial⟩) ?_
 repeat' ((conv=>whnf);first|with_reducible (first|refine Lm ?_|refine Wm (by omega) ?_|refine dF (by omega) (fun h => ?_)|refine dT (by omega) (fun h => ?_)|refine Bf.D (fun h => ?_) (fun h => ?_)|refine Bn ?_|refine Fm rfl ?_)|refine Bt ?_|refine Bu ?_|refine Cl.sz (szPlan_ok x.Plan _ (by omega) (by omega) wPlan) (fun h => ?_) (fun h => ?_))
 all_goals exact congrArg (fun z => [I z]) (by unfold szR DJob.sz; split <;> omega)
theorem szHeap_ok (x : DHeap) (left : Int) (h0 : 0 ≤ left) (h1 : left ≤ 1048576) (hw : DHeap.wf x) : CallsA Tryz.prog 7 false [.val (some 24) (DHeap.enc .imm x), .val none [I left]] .one [I (szR (DHeap.sz x) left)] := by
 obtain ⟨wKernel, wFree, wSpans, wLarges, wObjs, wCaches, wMail, wQuar, wSeed, wClock, wLimit, wNext, wMeshing, wJob⟩ := hw
 refine fO (n := 60) [] Tryz.func7 (by kernel_rfl) rfl (by kernel_rfl) (by rfl) (.inr ⟨trivial, trivial⟩) ?_
 repeat' ((conv=>whnf);first|with_reducible (first|refine Lm ?_|refine Wm (by omega) ?_|refine dF (by omega) (fun h => ?_)|refine dT (by omega) (fun h => ?_)|refine Bf.D (fun h => ?_) (fun h => ?_)|refine Bn ?_|refine Fm rfl ?_)|refine Bt ?_|refine Bu ?_|refine Cl.sz (szKernel_ok x.Kernel _ (by omega) (by omega) wKernel) (fun h => ?_) (fun h => ?_)|refine Cl.sz (szRangeS_ok x.Free _ (by omega) (by omega) wFree) (fun h => ?_) (fun h => ?_)|refine Cl.sz (szSpanS_ok x.Spans _ (by omega) (by omega) wSpans) (fun h => ?_) (fun h => ?_)|refine Cl.sz (szLargeS_ok x.Larges _ (by omega) (by omega) wLarges) (fun h => ?_) (fun h => ?_)|refine Cl.sz (szObjS_ok x.Objs _ (by omega) (by omega) wObjs) (fun h => ?_) (fun h => ?_)|refine Cl.sz (szCacheS_ok x.Caches _ (by omega) (by omega) wCaches) (fun h => ?_) (fun h => ?_)|refine Cl.sz (szMail_ok x.Mail _ (by omega) (by omega) wMail) (fun h => ?_) (fun h => ?_)|refine Cl.sz (szQuar_ok x.Quar _ (by omega) (by omega) wQuar) (fun h => ?_) (fun h => ?_)|refine Cl.sz (szJob_ok x.Job _ (by omega) (by omega) wJob) (fun h => ?_) (fun h => ?_))
 all_goals exact congrArg (fun z => [I z]) (by unfold szR DHeap.sz; split <;> omega)
end Go.Proofs.YtjgjnlppphejpaaGreat.Ab
/- Contracts of the laws' generic functions (eq). Printed by gen_con.py. No condition. -/
namespace Go.Proofs.YtjgjnlppphejpaaGreat.Ab
open Go.RowKit
set_option maxRecDepth 20000
set_option maxHeartbeats 2000000

theorem eqIntS_ok (a b : List Int) (hs : smlIntS a) : CallsA Tryz.prog 64 false [.val none (rIntS .imm a), .val none (rIntS .imm b)] .one [B (decide (a = b))] := by
 refine fO (n := 26) [(6, 9, [17, 18, 19, 20, 21, 22, 23, 24, 25])] Tryz.func64 (by kernel_rfl) rfl (by kernel_rfl) (by rfl) (.inr ⟨trivial, trivial⟩) ?_
 have hl : a.length ≤ 1048576 := hs
 repeat' ((conv=>whnf);first|with_reducible (first|refine Lm ?_|refine Wm (by omega) ?_|refine Bf.N (fun h => ?_) (fun h => ?_)|refine Bn ?_|refine Fm rfl ?_)|refine Bt ?_|refine Bu ?_)
 ·refine congrArg (fun z => [B z]) (decide_eq_false fun e => ?_).symm
  subst e
  omega
 have hlab : a.length = b.length := by omega
 (conv=>whnf)
 refine Lp.mk (ι := Nat) (fun i => [(0, .hold .one (rIntS .imm a)), (1, .hold .one (rIntS .imm b)), (5, .hold .one [I (i : Nat)])]) (fun i => i ≤ a.length ∧ ∀ j, j < i → a[j]? = b[j]?) (fun i => a.length - i) 0 ?_ ⟨Nat.zero_le _, fun j hj => by omega⟩ fun i hi => ?_
 ·repeat' (first|exact trivial|rfl|refine And.intro ?_ ?_)
 ·obtain ⟨hi, hall⟩ := hi
  by_cases hlt : i < a.length
  ·obtain ⟨x, hx⟩ : ∃ x, a[i]? = some x := ⟨_, List.getElem?_eq_getElem hlt⟩
   obtain ⟨y, hy⟩ : ∃ y, b[i]? = some y := ⟨_, List.getElem?_eq_getElem (by omega)⟩
   repeat' ((conv=>whnf);first|with_reducible (first|refine Lm ?_|refine Wm (by omega) ?_|refine Ix.nat (get_map hx) ?_|refine Ix.nat (get_map hy) ?_|refine dT (by omega) (fun h => ?_)|refine Bf.N (fun h => ?_) (fun h => ?_)|refine Bf.NB (fun h => ?_) (fun h => ?_)|refine Bf.D (fun h => ?_) (fun h => ?_)|refine Bn ?_|refine Fm rfl ?_)|refine Bt ?_|refine Bu ?_)
   all_goals first
    |(show [B false] = [B (decide (a = b))]
      refine congrArg (fun z => [B z]) (decide_eq_false fun e => ?_).symm
      subst e
      simp_all)
    | ((conv=>whnf)
       refine Nx.mk (i + 1) ⟨by omega, fun j hj => ?_⟩ (by omega) ?_
       · rcases Nat.lt_or_ge j i with h1 | h1
         · exact hall j h1
         · obtain rfl : j = i := by omega
           rw [hx, hy]
           simp_all
       · repeat' (first|exact trivial|rfl|refine And.intro ?_ ?_))
  ·repeat' ((conv=>whnf);first|with_reducible (first|refine Lm ?_|refine Wm (by omega) ?_|refine dF (by omega) (fun h => ?_)|refine Bn ?_|refine Fm rfl ?_)|refine Bt ?_|refine Bu ?_)
   refine congrArg (fun z => [B z]) (decide_eq_true ?_).symm
   refine List.ext_getElem? fun j => ?_
   rcases Nat.lt_or_ge j i with h1 | h1
   ·exact hall j h1
   ·rw [List.getElem?_eq_none (by omega), List.getElem?_eq_none (by omega)]
theorem eqIntSS_ok (a b : List (List Int)) (hs : smlIntSS a) : CallsA Tryz.prog 149 false [.val none (rIntSS .imm a), .val none (rIntSS .imm b)] .one [B (decide (a = b))] := by
 refine fO (n := 27) [(6, 10, [17, 18, 19, 20, 21, 22, 23, 24, 25, 26])] Tryz.func149 (by kernel_rfl) rfl (by kernel_rfl) (by rfl) (.inr ⟨trivial, trivial⟩) ?_
 have hl : a.length ≤ 1048576 := hs.1
 repeat' ((conv=>whnf);first|with_reducible (first|refine Lm ?_|refine Wm (by omega) ?_|refine Bf.N (fun h => ?_) (fun h => ?_)|refine Bn ?_|refine Fm rfl ?_)|refine Bt ?_|refine Bu ?_)
 ·refine congrArg (fun z => [B z]) (decide_eq_false fun e => ?_).symm
  subst e
  omega
 have hlab : a.length = b.length := by omega
 (conv=>whnf)
 refine Lp.mk (ι := Nat) (fun i => [(0, .hold .one (rIntSS .imm a)), (1, .hold .one (rIntSS .imm b)), (5, .hold .one [I (i : Nat)])]) (fun i => i ≤ a.length ∧ ∀ j, j < i → a[j]? = b[j]?) (fun i => a.length - i) 0 ?_ ⟨Nat.zero_le _, fun j hj => by omega⟩ fun i hi => ?_
 ·repeat' (first|exact trivial|rfl|refine And.intro ?_ ?_)
 ·obtain ⟨hi, hall⟩ := hi
  by_cases hlt : i < a.length
  ·obtain ⟨x, hx⟩ : ∃ x, a[i]? = some x := ⟨_, List.getElem?_eq_getElem hlt⟩
   obtain ⟨y, hy⟩ : ∃ y, b[i]? = some y := ⟨_, List.getElem?_eq_getElem (by omega)⟩
   repeat' ((conv=>whnf);first|with_reducible (first|refine Lm ?_|refine Wm (by omega) ?_|refine Ix.nat (get_map hx) ?_|refine Ix.nat (get_map hy) ?_|refine dT (by omega) (fun h => ?_)|refine Bf.N (fun h => ?_) (fun h => ?_)|refine Bf.NB (fun h => ?_) (fun h => ?_)|refine Bf.D (fun h => ?_) (fun h => ?_)|refine Bn ?_|refine Fm rfl ?_)|refine Bt ?_|refine Bu ?_|refine Cl.mk (eqIntS_ok x y (hs.2 x (List.mem_of_getElem? hx))) ?_)
   all_goals first
    |(show [B false] = [B (decide (a = b))]
      refine congrArg (fun z => [B z]) (decide_eq_false fun e => ?_).symm
      subst e
      simp_all)
    | ((conv=>whnf)
       refine Nx.mk (i + 1) ⟨by omega, fun j hj => ?_⟩ (by omega) ?_
       · rcases Nat.lt_or_ge j i with h1 | h1
         · exact hall j h1
         · obtain rfl : j = i := by omega
           rw [hx, hy]
           simp_all
       · repeat' (first|exact trivial|rfl|refine And.intro ?_ ?_))
  ·repeat' ((conv=>whnf);first|with_reducible (first|refine Lm ?_|refine Wm (by omega) ?_|refine dF (by omega) (fun h => ?_)|refine Bn ?_|refine Fm rfl ?_)|refine Bt ?_|refine Bu ?_)
   refine congrArg (fun z => [B z]) (decide_eq_true ?_).symm
   refine List.ext_getElem? fun j => ?_
   rcases Nat.lt_or_ge j i with h1 | h1
   ·exact hall j h1
   ·rw [List.getElem?_eq_none (by omega), List.getElem?_eq_none (by omega)]
theorem eqBoolS_ok (a b : List Bool) (hs : smlBoolS a) : CallsA Tryz.prog 252 false [.val none (rBoolS .imm a), .val none (rBoolS .imm b)] .one [B (decide (a = b))] := by
 refine fO (n := 26) [(6, 9, [17, 18, 19, 20, 21, 22, 23, 24, 25])] Tryz.func252 (by kernel_rfl) rfl (by kernel_rfl) (by rfl) (.inr ⟨trivial, trivial⟩) ?_
 have hl : a.length ≤ 1048576 := hs
 repeat' ((conv=>whnf);first|with_reducible (first|refine Lm ?_|refine Wm (by omega) ?_|refine Bf.N (fun h => ?_) (fun h => ?_)|refine Bn ?_|refine Fm rfl ?_)|refine Bt ?_|refine Bu ?_)
 ·refine congrArg (fun z => [B z]) (decide_eq_false fun e => ?_).symm
  subst e
  omega
 have hlab : a.length = b.length := by omega
 (conv=>whnf)
 refine Lp.mk (ι := Nat) (fun i => [(0, .hold .one (rBoolS .imm a)), (1, .hold .one (rBoolS .imm b)), (5, .hold .one [I (i : Nat)])]) (fun i => i ≤ a.length ∧ ∀ j, j < i → a[j]? = b[j]?) (fun i => a.length - i) 0 ?_ ⟨Nat.zero_le _, fun j hj => by omega⟩ fun i hi => ?_
 ·repeat' (first|exact trivial|rfl|refine And.intro ?_ ?_)
 ·obtain ⟨hi, hall⟩ := hi
  by_cases hlt : i < a.length
  ·obtain ⟨x, hx⟩ : ∃ x, a[i]? = some x := ⟨_, List.getElem?_eq_getElem hlt⟩
   obtain ⟨y, hy⟩ : ∃ y, b[i]? = some y := ⟨_, List.getElem?_eq_getElem (by omega)⟩
   repeat' ((conv=>whnf);first|with_reducible (first|refine Lm ?_|refine Wm (by omega) ?_|refine Ix.nat (get_map hx) ?_|refine Ix.nat (get_map hy) ?_|refine dT (by omega) (fun h => ?_)|refine Bf.N (fun h => ?_) (fun h => ?_)|refine Bf.NB (fun h => ?_) (fun h => ?_)|refine Bf.D (fun h => ?_) (fun h => ?_)|refine Bn ?_|refine Fm rfl ?_)|refine Bt ?_|refine Bu ?_)
   all_goals first
    |(show [B false] = [B (decide (a = b))]
      refine congrArg (fun z => [B z]) (decide_eq_false fun e => ?_).symm
      subst e
      simp_all)
    | ((conv=>whnf)
       refine Nx.mk (i + 1) ⟨by omega, fun j hj => ?_⟩ (by omega) ?_
       · rcases Nat.lt_or_ge j i with h1 | h1
         · exact hall j h1
         · obtain rfl : j = i := by omega
           rw [hx, hy]
           simp_all
       · repeat' (first|exact trivial|rfl|refine And.intro ?_ ?_))
  ·repeat' ((conv=>whnf);first|with_reducible (first|refine Lm ?_|refine Wm (by omega) ?_|refine dF (by omega) (fun h => ?_)|refine Bn ?_|refine Fm rfl ?_)|refine Bt ?_|refine Bu ?_)
   refine congrArg (fun z => [B z]) (decide_eq_true ?_).symm
   refine List.ext_getElem? fun j => ?_
   rcases Nat.lt_or_ge j i with h1 | h1
   ·exact hall j h1
   ·rw [List.getElem?_eq_none (by omega), List.getElem?_eq_none (by omega)]
theorem eqFrames_ok (a b : DFrames) (hs : DFrames.sml a) : CallsA Tryz.prog 159 false [.val (some 2) (DFrames.enc .imm a), .val (some 2) (DFrames.enc .imm b)] .one [B (decide (a = b))] := by
 obtain ⟨h0, h1⟩ := hs
 refine fO (n := 17) [] Tryz.func159 (by kernel_rfl) rfl (by kernel_rfl) (by rfl) (.inr ⟨trivial, trivial⟩) ?_
 repeat' ((conv=>whnf);first|with_reducible (first|refine Lm ?_|refine Wm (by omega) ?_|refine Bf.N (fun h => ?_) (fun h => ?_)|refine Bf.NB (fun h => ?_) (fun h => ?_)|refine Bf.D (fun h => ?_) (fun h => ?_)|refine Bn ?_|refine Fm rfl ?_)|refine Bt ?_|refine Bu ?_|refine Cl.mk (eqIntSS_ok a.Cells b.Cells h0) ?_|refine Cl.mk (eqBoolS_ok a.Used b.Used h1) ?_)
 all_goals first | (show [B false] = [B (decide (a = b))]; refine congrArg (fun z => [B z]) (decide_eq_false fun e => ?_).symm; subst e; contradiction) | (show [B true] = [B (decide (a = b))]; refine congrArg (fun z => [B z]) (decide_eq_true ?_).symm; cases a; cases b; simp_all)
theorem eqEntry_ok (a b : DEntry) (hs : DEntry.sml a) : CallsA Tryz.prog 310 false [.val (some 2) (DEntry.enc .imm a), .val (some 2) (DEntry.enc .imm b)] .one [B (decide (a = b))] := by
 refine fO (n := 15) [] Tryz.func310 (by kernel_rfl) rfl (by kernel_rfl) (by rfl) (.inr ⟨trivial, trivial⟩) ?_
 repeat' ((conv=>whnf);first|with_reducible (first|refine Lm ?_|refine Wm (by omega) ?_|refine Bf.N (fun h => ?_) (fun h => ?_)|refine Bf.NB (fun h => ?_) (fun h => ?_)|refine Bf.D (fun h => ?_) (fun h => ?_)|refine Bn ?_|refine Fm rfl ?_)|refine Bt ?_|refine Bu ?_)
 all_goals first | (show [B false] = [B (decide (a = b))]; refine congrArg (fun z => [B z]) (decide_eq_false fun e => ?_).symm; subst e; contradiction) | (show [B true] = [B (decide (a = b))]; refine congrArg (fun z => [B z]) (decide_eq_true ?_).symm; cases a; cases b; simp_all)
theorem eqEntryS_ok (a b : List DEntry) (hs : smlDEntryS a) : CallsA Tryz.prog 253 false [.val none (rDEntryS .imm a), .val none (rDEntryS .imm b)] .one [B (decide (a = b))] := by
 refine fO (n := 27) [(6, 10, [17, 18, 19, 20, 21, 22, 23, 24, 25, 26])] Tryz.func253 (by kernel_rfl) rfl (by kernel_rfl) (by rfl) (.inr ⟨trivial, trivial⟩) ?_
 have hl : a.length ≤ 1048576 := hs.1
 repeat' ((conv=>whnf);first|with_reducible (first|refine Lm ?_|refine Wm (by omega) ?_|refine Bf.N (fun h => ?_) (fun h => ?_)|refine Bn ?_|refine Fm rfl ?_)|refine Bt ?_|refine Bu ?_)
 ·refine congrArg (fun z => [B z]) (decide_eq_false fun e => ?_).symm
  subst e
  omega
 have hlab : a.length = b.length := by omega
 (conv=>whnf)
 refine Lp.mk (ι := Nat) (fun i => [(0, .hold .one (rDEntryS .imm a)), (1, .hold .one (rDEntryS .imm b)), (5, .hold .one [I (i : Nat)])]) (fun i => i ≤ a.length ∧ ∀ j, j < i → a[j]? = b[j]?) (fun i => a.length - i) 0 ?_ ⟨Nat.zero_le _, fun j hj => by omega⟩ fun i hi => ?_
 ·repeat' (first|exact trivial|rfl|refine And.intro ?_ ?_)
 ·obtain ⟨hi, hall⟩ := hi
  by_cases hlt : i < a.length
  ·obtain ⟨x, hx⟩ : ∃ x, a[i]? = some x := ⟨_, List.getElem?_eq_getElem hlt⟩
   obtain ⟨y, hy⟩ : ∃ y, b[i]? = some y := ⟨_, List.getElem?_eq_getElem (by omega)⟩
   repeat' ((conv=>whnf);first|with_reducible (first|refine Lm ?_|refine Wm (by omega) ?_|refine Ix.nat (get_map hx) ?_|refine Ix.nat (get_map hy) ?_|refine dT (by omega) (fun h => ?_)|refine Bf.N (fun h => ?_) (fun h => ?_)|refine Bf.NB (fun h => ?_) (fun h => ?_)|refine Bf.D (fun h => ?_) (fun h => ?_)|refine Bn ?_|refine Fm rfl ?_)|refine Bt ?_|refine Bu ?_|refine Cl.mk (eqEntry_ok x y trivial) ?_)
   all_goals first
    |(show [B false] = [B (decide (a = b))]
      refine congrArg (fun z => [B z]) (decide_eq_false fun e => ?_).symm
      subst e
      simp_all)
    | ((conv=>whnf)
       refine Nx.mk (i + 1) ⟨by omega, fun j hj => ?_⟩ (by omega) ?_
       · rcases Nat.lt_or_ge j i with h1 | h1
         · exact hall j h1
         · obtain rfl : j = i := by omega
           rw [hx, hy]
           simp_all
       · repeat' (first|exact trivial|rfl|refine And.intro ?_ ?_))
  ·repeat' ((conv=>whnf);first|with_reducible (first|refine Lm ?_|refine Wm (by omega) ?_|refine dF (by omega) (fun h => ?_)|refine Bn ?_|refine Fm rfl ?_)|refine Bt ?_|refine Bu ?_)
   refine congrArg (fun z => [B z]) (decide_eq_true ?_).symm
   refine List.ext_getElem? fun j => ?_
   rcases Nat.lt_or_ge j i with h1 | h1
   ·exact hall j h1
   ·rw [List.getElem?_eq_none (by omega), List.getElem?_eq_none (by omega)]
theorem eqTable_ok (a b : DTable) (hs : DTable.sml a) : CallsA Tryz.prog 160 false [.val (some 1) (DTable.enc .imm a), .val (some 1) (DTable.enc .imm b)] .one [B (decide (a = b))] := by
 have h0 := hs
 refine fO (n := 11) [] Tryz.func160 (by kernel_rfl) rfl (by kernel_rfl) (by rfl) (.inr ⟨trivial, trivial⟩) ?_
 repeat' ((conv=>whnf);first|with_reducible (first|refine Lm ?_|refine Wm (by omega) ?_|refine Bf.N (fun h => ?_) (fun h => ?_)|refine Bf.NB (fun h => ?_) (fun h => ?_)|refine Bf.D (fun h => ?_) (fun h => ?_)|refine Bn ?_|refine Fm rfl ?_)|refine Bt ?_|refine Bu ?_|refine Cl.mk (eqEntryS_ok a.Entries b.Entries h0) ?_)
 all_goals first | (show [B false] = [B (decide (a = b))]; refine congrArg (fun z => [B z]) (decide_eq_false fun e => ?_).symm; subst e; contradiction) | (show [B true] = [B (decide (a = b))]; refine congrArg (fun z => [B z]) (decide_eq_true ?_).symm; cases a; cases b; simp_all)
theorem eqMachine_ok (a b : DMachine) (hs : DMachine.sml a) : CallsA Tryz.prog 63 false [.val (some 3) (DMachine.enc .imm a), .val (some 3) (DMachine.enc .imm b)] .one [B (decide (a = b))] := by
 obtain ⟨h0, h1⟩ := hs
 refine fO (n := 17) [] Tryz.func63 (by kernel_rfl) rfl (by kernel_rfl) (by rfl) (.inr ⟨trivial, trivial⟩) ?_
 repeat' ((conv=>whnf);first|with_reducible (first|refine Lm ?_|refine Wm (by omega) ?_|refine Bf.N (fun h => ?_) (fun h => ?_)|refine Bf.NB (fun h => ?_) (fun h => ?_)|refine Bf.D (fun h => ?_) (fun h => ?_)|refine Bn ?_|refine Fm rfl ?_)|refine Bt ?_|refine Bu ?_|refine Cl.mk (eqFrames_ok a.Frames b.Frames h0) ?_|refine Cl.mk (eqTable_ok a.Table b.Table h1) ?_)
 all_goals first | (show [B false] = [B (decide (a = b))]; refine congrArg (fun z => [B z]) (decide_eq_false fun e => ?_).symm; subst e; contradiction) | (show [B true] = [B (decide (a = b))]; refine congrArg (fun z => [B z]) (decide_eq_true ?_).symm; cases a; cases b; simp_all)
theorem eqKernel_ok (a b : DKernel) (hs : DKernel.sml a) : CallsA Tryz.prog 14 false [.val (some 5) (DKernel.enc .imm a), .val (some 5) (DKernel.enc .imm b)] .one [B (decide (a = b))] := by
 obtain ⟨h0, h1⟩ := hs
 refine fO (n := 22) [] Tryz.func14 (by kernel_rfl) rfl (by kernel_rfl) (by rfl) (.inr ⟨trivial, trivial⟩) ?_
 repeat' ((conv=>whnf);first|with_reducible (first|refine Lm ?_|refine Wm (by omega) ?_|refine Bf.N (fun h => ?_) (fun h => ?_)|refine Bf.NB (fun h => ?_) (fun h => ?_)|refine Bf.D (fun h => ?_) (fun h => ?_)|refine Bn ?_|refine Fm rfl ?_)|refine Bt ?_|refine Bu ?_|refine Cl.mk (eqMachine_ok a.Machine b.Machine h0) ?_|refine Cl.mk (eqIntS_ok a.Refuse b.Refuse h1) ?_)
 all_goals first | (show [B false] = [B (decide (a = b))]; refine congrArg (fun z => [B z]) (decide_eq_false fun e => ?_).symm; subst e; contradiction) | (show [B true] = [B (decide (a = b))]; refine congrArg (fun z => [B z]) (decide_eq_true ?_).symm; cases a; cases b; simp_all)
theorem eqRange_ok (a b : DRange) (hs : DRange.sml a) : CallsA Tryz.prog 143 false [.val (some 2) (DRange.enc .imm a), .val (some 2) (DRange.enc .imm b)] .one [B (decide (a = b))] := by
 refine fO (n := 15) [] Tryz.func143 (by kernel_rfl) rfl (by kernel_rfl) (by rfl) (.inr ⟨trivial, trivial⟩) ?_
 repeat' ((conv=>whnf);first|with_reducible (first|refine Lm ?_|refine Wm (by omega) ?_|refine Bf.N (fun h => ?_) (fun h => ?_)|refine Bf.NB (fun h => ?_) (fun h => ?_)|refine Bf.D (fun h => ?_) (fun h => ?_)|refine Bn ?_|refine Fm rfl ?_)|refine Bt ?_|refine Bu ?_)
 all_goals first | (show [B false] = [B (decide (a = b))]; refine congrArg (fun z => [B z]) (decide_eq_false fun e => ?_).symm; subst e; contradiction) | (show [B true] = [B (decide (a = b))]; refine congrArg (fun z => [B z]) (decide_eq_true ?_).symm; cases a; cases b; simp_all)
theorem eqRangeS_ok (a b : List DRange) (hs : smlDRangeS a) : CallsA Tryz.prog 50 false [.val none (rDRangeS .imm a), .val none (rDRangeS .imm b)] .one [B (decide (a = b))] := by
 refine fO (n := 27) [(6, 10, [17, 18, 19, 20, 21, 22, 23, 24, 25, 26])] Tryz.func50 (by kernel_rfl) rfl (by kernel_rfl) (by rfl) (.inr ⟨trivial, trivial⟩) ?_
 have hl : a.length ≤ 1048576 := hs.1
 repeat' ((conv=>whnf);first|with_reducible (first|refine Lm ?_|refine Wm (by omega) ?_|refine Bf.N (fun h => ?_) (fun h => ?_)|refine Bn ?_|refine Fm rfl ?_)|refine Bt ?_|refine Bu ?_)
 ·refine congrArg (fun z => [B z]) (decide_eq_false fun e => ?_).symm
  subst e
  omega
 have hlab : a.length = b.length := by omega
 (conv=>whnf)
 refine Lp.mk (ι := Nat) (fun i => [(0, .hold .one (rDRangeS .imm a)), (1, .hold .one (rDRangeS .imm b)), (5, .hold .one [I (i : Nat)])]) (fun i => i ≤ a.length ∧ ∀ j, j < i → a[j]? = b[j]?) (fun i => a.length - i) 0 ?_ ⟨Nat.zero_le _, fun j hj => by omega⟩ fun i hi => ?_
 ·repeat' (first|exact trivial|rfl|refine And.intro ?_ ?_)
 ·obtain ⟨hi, hall⟩ := hi
  by_cases hlt : i < a.length
  ·obtain ⟨x, hx⟩ : ∃ x, a[i]? = some x := ⟨_, List.getElem?_eq_getElem hlt⟩
   obtain ⟨y, hy⟩ : ∃ y, b[i]? = some y := ⟨_, List.getElem?_eq_getElem (by omega)⟩
   repeat' ((conv=>whnf);first|with_reducible (first|refine Lm ?_|refine Wm (by omega) ?_|refine Ix.nat (get_map hx) ?_|refine Ix.nat (get_map hy) ?_|refine dT (by omega) (fun h => ?_)|refine Bf.N (fun h => ?_) (fun h => ?_)|refine Bf.NB (fun h => ?_) (fun h => ?_)|refine Bf.D (fun h => ?_) (fun h => ?_)|refine Bn ?_|refine Fm rfl ?_)|refine Bt ?_|refine Bu ?_|refine Cl.mk (eqRange_ok x y trivial) ?_)
   all_goals first
    |(show [B false] = [B (decide (a = b))]
      refine congrArg (fun z => [B z]) (decide_eq_false fun e => ?_).symm
      subst e
      simp_all)
    | ((conv=>whnf)
       refine Nx.mk (i + 1) ⟨by omega, fun j hj => ?_⟩ (by omega) ?_
       · rcases Nat.lt_or_ge j i with h1 | h1
         · exact hall j h1
         · obtain rfl : j = i := by omega
           rw [hx, hy]
           simp_all
       · repeat' (first|exact trivial|rfl|refine And.intro ?_ ?_))
  ·repeat' ((conv=>whnf);first|with_reducible (first|refine Lm ?_|refine Wm (by omega) ?_|refine dF (by omega) (fun h => ?_)|refine Bn ?_|refine Fm rfl ?_)|refine Bt ?_|refine Bu ?_)
   refine congrArg (fun z => [B z]) (decide_eq_true ?_).symm
   refine List.ext_getElem? fun j => ?_
   rcases Nat.lt_or_ge j i with h1 | h1
   ·exact hall j h1
   ·rw [List.getElem?_eq_none (by omega), List.getElem?_eq_none (by omega)]
theorem eqSpan_ok (a b : DSpan) (hs : DSpan.sml a) : CallsA Tryz.prog 144 false [.val (some 3) (DSpan.enc .imm a), .val (some 3) (DSpan.enc .imm b)] .one [B (decide (a = b))] := by
 refine fO (n := 20) [] Tryz.func144 (by kernel_rfl) rfl (by kernel_rfl) (by rfl) (.inr ⟨trivial, trivial⟩) ?_
 repeat' ((conv=>whnf);first|with_reducible (first|refine Lm ?_|refine Wm (by omega) ?_|refine Bf.N (fun h => ?_) (fun h => ?_)|refine Bf.NB (fun h => ?_) (fun h => ?_)|refine Bf.D (fun h => ?_) (fun h => ?_)|refine Bn ?_|refine Fm rfl ?_)|refine Bt ?_|refine Bu ?_)
 all_goals first | (show [B false] = [B (decide (a = b))]; refine congrArg (fun z => [B z]) (decide_eq_false fun e => ?_).symm; subst e; contradiction) | (show [B true] = [B (decide (a = b))]; refine congrArg (fun z => [B z]) (decide_eq_true ?_).symm; cases a; cases b; simp_all)
theorem eqSpanS_ok (a b : List DSpan) (hs : smlDSpanS a) : CallsA Tryz.prog 51 false [.val none (rDSpanS .imm a), .val none (rDSpanS .imm b)] .one [B (decide (a = b))] := by
 refine fO (n := 27) [(6, 10, [17, 18, 19, 20, 21, 22, 23, 24, 25, 26])] Tryz.func51 (by kernel_rfl) rfl (by kernel_rfl) (by rfl) (.inr ⟨trivial, trivial⟩) ?_
 have hl : a.length ≤ 1048576 := hs.1
 repeat' ((conv=>whnf);first|with_reducible (first|refine Lm ?_|refine Wm (by omega) ?_|refine Bf.N (fun h => ?_) (fun h => ?_)|refine Bn ?_|refine Fm rfl ?_)|refine Bt ?_|refine Bu ?_)
 ·refine congrArg (fun z => [B z]) (decide_eq_false fun e => ?_).symm
  subst e
  omega
 have hlab : a.length = b.length := by omega
 (conv=>whnf)
 refine Lp.mk (ι := Nat) (fun i => [(0, .hold .one (rDSpanS .imm a)), (1, .hold .one (rDSpanS .imm b)), (5, .hold .one [I (i : Nat)])]) (fun i => i ≤ a.length ∧ ∀ j, j < i → a[j]? = b[j]?) (fun i => a.length - i) 0 ?_ ⟨Nat.zero_le _, fun j hj => by omega⟩ fun i hi => ?_
 ·repeat' (first|exact trivial|rfl|refine And.intro ?_ ?_)
 ·obtain ⟨hi, hall⟩ := hi
  by_cases hlt : i < a.length
  ·obtain ⟨x, hx⟩ : ∃ x, a[i]? = some x := ⟨_, List.getElem?_eq_getElem hlt⟩
   obtain ⟨y, hy⟩ : ∃ y, b[i]? = some y := ⟨_, List.getElem?_eq_getElem (by omega)⟩
   repeat' ((conv=>whnf);first|with_reducible (first|refine Lm ?_|refine Wm (by omega) ?_|refine Ix.nat (get_map hx) ?_|refine Ix.nat (get_map hy) ?_|refine dT (by omega) (fun h => ?_)|refine Bf.N (fun h => ?_) (fun h => ?_)|refine Bf.NB (fun h => ?_) (fun h => ?_)|refine Bf.D (fun h => ?_) (fun h => ?_)|refine Bn ?_|refine Fm rfl ?_)|refine Bt ?_|refine Bu ?_|refine Cl.mk (eqSpan_ok x y trivial) ?_)
   all_goals first
    |(show [B false] = [B (decide (a = b))]
      refine congrArg (fun z => [B z]) (decide_eq_false fun e => ?_).symm
      subst e
      simp_all)
    | ((conv=>whnf)
       refine Nx.mk (i + 1) ⟨by omega, fun j hj => ?_⟩ (by omega) ?_
       · rcases Nat.lt_or_ge j i with h1 | h1
         · exact hall j h1
         · obtain rfl : j = i := by omega
           rw [hx, hy]
           simp_all
       · repeat' (first|exact trivial|rfl|refine And.intro ?_ ?_))
  ·repeat' ((conv=>whnf);first|with_reducible (first|refine Lm ?_|refine Wm (by omega) ?_|refine dF (by omega) (fun h => ?_)|refine Bn ?_|refine Fm rfl ?_)|refine Bt ?_|refine Bu ?_)
   refine congrArg (fun z => [B z]) (decide_eq_true ?_).symm
   refine List.ext_getElem? fun j => ?_
   rcases Nat.lt_or_ge j i with h1 | h1
   ·exact hall j h1
   ·rw [List.getElem?_eq_none (by omega), List.getElem?_eq_none (by omega)]
theorem eqLarge_ok (a b : DLarge) (hs : DLarge.sml a) : CallsA Tryz.prog 145 false [.val (some 3) (DLarge.enc .imm a), .val (some 3) (DLarge.enc .imm b)] .one [B (decide (a = b))] := by
 refine fO (n := 20) [] Tryz.func145 (by kernel_rfl) rfl (by kernel_rfl) (by rfl) (.inr ⟨trivial, trivial⟩) ?_
 repeat' ((conv=>whnf);first|with_reducible (first|refine Lm ?_|refine Wm (by omega) ?_|refine Bf.N (fun h => ?_) (fun h => ?_)|refine Bf.NB (fun h => ?_) (fun h => ?_)|refine Bf.D (fun h => ?_) (fun h => ?_)|refine Bn ?_|refine Fm rfl ?_)|refine Bt ?_|refine Bu ?_)
 all_goals first | (show [B false] = [B (decide (a = b))]; refine congrArg (fun z => [B z]) (decide_eq_false fun e => ?_).symm; subst e; contradiction) | (show [B true] = [B (decide (a = b))]; refine congrArg (fun z => [B z]) (decide_eq_true ?_).symm; cases a; cases b; simp_all)
theorem eqLargeS_ok (a b : List DLarge) (hs : smlDLargeS a) : CallsA Tryz.prog 52 false [.val none (rDLargeS .imm a), .val none (rDLargeS .imm b)] .one [B (decide (a = b))] := by
 refine fO (n := 27) [(6, 10, [17, 18, 19, 20, 21, 22, 23, 24, 25, 26])] Tryz.func52 (by kernel_rfl) rfl (by kernel_rfl) (by rfl) (.inr ⟨trivial, trivial⟩) ?_
 have hl : a.length ≤ 1048576 := hs.1
 repeat' ((conv=>whnf);first|with_reducible (first|refine Lm ?_|refine Wm (by omega) ?_|refine Bf.N (fun h => ?_) (fun h => ?_)|refine Bn ?_|refine Fm rfl ?_)|refine Bt ?_|refine Bu ?_)
 ·refine congrArg (fun z => [B z]) (decide_eq_false fun e => ?_).symm
  subst e
  omega
 have hlab : a.length = b.length := by omega
 (conv=>whnf)
 refine Lp.mk (ι := Nat) (fun i => [(0, .hold .one (rDLargeS .imm a)), (1, .hold .one (rDLargeS .imm b)), (5, .hold .one [I (i : Nat)])]) (fun i => i ≤ a.length ∧ ∀ j, j < i → a[j]? = b[j]?) (fun i => a.length - i) 0 ?_ ⟨Nat.zero_le _, fun j hj => by omega⟩ fun i hi => ?_
 ·repeat' (first|exact trivial|rfl|refine And.intro ?_ ?_)
 ·obtain ⟨hi, hall⟩ := hi
  by_cases hlt : i < a.length
  ·obtain ⟨x, hx⟩ : ∃ x, a[i]? = some x := ⟨_, List.getElem?_eq_getElem hlt⟩
   obtain ⟨y, hy⟩ : ∃ y, b[i]? = some y := ⟨_, List.getElem?_eq_getElem (by omega)⟩
   repeat' ((conv=>whnf);first|with_reducible (first|refine Lm ?_|refine Wm (by omega) ?_|refine Ix.nat (get_map hx) ?_|refine Ix.nat (get_map hy) ?_|refine dT (by omega) (fun h => ?_)|refine Bf.N (fun h => ?_) (fun h => ?_)|refine Bf.NB (fun h => ?_) (fun h => ?_)|refine Bf.D (fun h => ?_) (fun h => ?_)|refine Bn ?_|refine Fm rfl ?_)|refine Bt ?_|refine Bu ?_|refine Cl.mk (eqLarge_ok x y trivial) ?_)
   all_goals first
    |(show [B false] = [B (decide (a = b))]
      refine congrArg (fun z => [B z]) (decide_eq_false fun e => ?_).symm
      subst e
      simp_all)
    | ((conv=>whnf)
       refine Nx.mk (i + 1) ⟨by omega, fun j hj => ?_⟩ (by omega) ?_
       · rcases Nat.lt_or_ge j i with h1 | h1
         · exact hall j h1
         · obtain rfl : j = i := by omega
           rw [hx, hy]
           simp_all
       · repeat' (first|exact trivial|rfl|refine And.intro ?_ ?_))
  ·repeat' ((conv=>whnf);first|with_reducible (first|refine Lm ?_|refine Wm (by omega) ?_|refine dF (by omega) (fun h => ?_)|refine Bn ?_|refine Fm rfl ?_)|refine Bt ?_|refine Bu ?_)
   refine congrArg (fun z => [B z]) (decide_eq_true ?_).symm
   refine List.ext_getElem? fun j => ?_
   rcases Nat.lt_or_ge j i with h1 | h1
   ·exact hall j h1
   ·rw [List.getElem?_eq_none (by omega), List.getElem?_eq_none (by omega)]
theorem eqObj_ok (a b : DObj) (hs : DObj.sml a) : CallsA Tryz.prog 146 false [.val (some 4) (DObj.enc .imm a), .val (some 4) (DObj.enc .imm b)] .one [B (decide (a = b))] := by
 refine fO (n := 25) [] Tryz.func146 (by kernel_rfl) rfl (by kernel_rfl) (by rfl) (.inr ⟨trivial, trivial⟩) ?_
 repeat' ((conv=>whnf);first|with_reducible (first|refine Lm ?_|refine Wm (by omega) ?_|refine Bf.N (fun h => ?_) (fun h => ?_)|refine Bf.NB (fun h => ?_) (fun h => ?_)|refine Bf.D (fun h => ?_) (fun h => ?_)|refine Bn ?_|refine Fm rfl ?_)|refine Bt ?_|refine Bu ?_)
 all_goals first | (show [B false] = [B (decide (a = b))]; refine congrArg (fun z => [B z]) (decide_eq_false fun e => ?_).symm; subst e; contradiction) | (show [B true] = [B (decide (a = b))]; refine congrArg (fun z => [B z]) (decide_eq_true ?_).symm; cases a; cases b; simp_all)
theorem eqObjS_ok (a b : List DObj) (hs : smlDObjS a) : CallsA Tryz.prog 53 false [.val none (rDObjS .imm a), .val none (rDObjS .imm b)] .one [B (decide (a = b))] := by
 refine fO (n := 27) [(6, 10, [17, 18, 19, 20, 21, 22, 23, 24, 25, 26])] Tryz.func53 (by kernel_rfl) rfl (by kernel_rfl) (by rfl) (.inr ⟨trivial, trivial⟩) ?_
 have hl : a.length ≤ 1048576 := hs.1
 repeat' ((conv=>whnf);first|with_reducible (first|refine Lm ?_|refine Wm (by omega) ?_|refine Bf.N (fun h => ?_) (fun h => ?_)|refine Bn ?_|refine Fm rfl ?_)|refine Bt ?_|refine Bu ?_)
 ·refine congrArg (fun z => [B z]) (decide_eq_false fun e => ?_).symm
  subst e
  omega
 have hlab : a.length = b.length := by omega
 (conv=>whnf)
 refine Lp.mk (ι := Nat) (fun i => [(0, .hold .one (rDObjS .imm a)), (1, .hold .one (rDObjS .imm b)), (5, .hold .one [I (i : Nat)])]) (fun i => i ≤ a.length ∧ ∀ j, j < i → a[j]? = b[j]?) (fun i => a.length - i) 0 ?_ ⟨Nat.zero_le _, fun j hj => by omega⟩ fun i hi => ?_
 ·repeat' (first|exact trivial|rfl|refine And.intro ?_ ?_)
 ·obtain ⟨hi, hall⟩ := hi
  by_cases hlt : i < a.length
  ·obtain ⟨x, hx⟩ : ∃ x, a[i]? = some x := ⟨_, List.getElem?_eq_getElem hlt⟩
   obtain ⟨y, hy⟩ : ∃ y, b[i]? = some y := ⟨_, List.getElem?_eq_getElem (by omega)⟩
   repeat' ((conv=>whnf);first|with_reducible (first|refine Lm ?_|refine Wm (by omega) ?_|refine Ix.nat (get_map hx) ?_|refine Ix.nat (get_map hy) ?_|refine dT (by omega) (fun h => ?_)|refine Bf.N (fun h => ?_) (fun h => ?_)|refine Bf.NB (fun h => ?_) (fun h => ?_)|refine Bf.D (fun h => ?_) (fun h => ?_)|refine Bn ?_|refine Fm rfl ?_)|refine Bt ?_|refine Bu ?_|refine Cl.mk (eqObj_ok x y trivial) ?_)
   all_goals first
    |(show [B false] = [B (decide (a = b))]
      refine congrArg (fun z => [B z]) (decide_eq_false fun e => ?_).symm
      subst e
      simp_all)
    | ((conv=>whnf)
       refine Nx.mk (i + 1) ⟨by omega, fun j hj => ?_⟩ (by omega) ?_
       · rcases Nat.lt_or_ge j i with h1 | h1
         · exact hall j h1
         · obtain rfl : j = i := by omega
           rw [hx, hy]
           simp_all
       · repeat' (first|exact trivial|rfl|refine And.intro ?_ ?_))
  ·repeat' ((conv=>whnf);first|with_reducible (first|refine Lm ?_|refine Wm (by omega) ?_|refine dF (by omega) (fun h => ?_)|refine Bn ?_|refine Fm rfl ?_)|refine Bt ?_|refine Bu ?_)
   refine congrArg (fun z => [B z]) (decide_eq_true ?_).symm
   refine List.ext_getElem? fun j => ?_
   rcases Nat.lt_or_ge j i with h1 | h1
   ·exact hall j h1
   ·rw [List.getElem?_eq_none (by omega), List.getElem?_eq_none (by omega)]
theorem eqCache_ok (a b : DCache) (hs : DCache.sml a) : CallsA Tryz.prog 147 false [.val (some 1) (DCache.enc .imm a), .val (some 1) (DCache.enc .imm b)] .one [B (decide (a = b))] := by
 have h0 := hs
 refine fO (n := 11) [] Tryz.func147 (by kernel_rfl) rfl (by kernel_rfl) (by rfl) (.inr ⟨trivial, trivial⟩) ?_
 repeat' ((conv=>whnf);first|with_reducible (first|refine Lm ?_|refine Wm (by omega) ?_|refine Bf.N (fun h => ?_) (fun h => ?_)|refine Bf.NB (fun h => ?_) (fun h => ?_)|refine Bf.D (fun h => ?_) (fun h => ?_)|refine Bn ?_|refine Fm rfl ?_)|refine Bt ?_|refine Bu ?_|refine Cl.mk (eqIntSS_ok a.Lists b.Lists h0) ?_)
 all_goals first | (show [B false] = [B (decide (a = b))]; refine congrArg (fun z => [B z]) (decide_eq_false fun e => ?_).symm; subst e; contradiction) | (show [B true] = [B (decide (a = b))]; refine congrArg (fun z => [B z]) (decide_eq_true ?_).symm; cases a; cases b; simp_all)
theorem eqCacheS_ok (a b : List DCache) (hs : smlDCacheS a) : CallsA Tryz.prog 54 false [.val none (rDCacheS .imm a), .val none (rDCacheS .imm b)] .one [B (decide (a = b))] := by
 refine fO (n := 27) [(6, 10, [17, 18, 19, 20, 21, 22, 23, 24, 25, 26])] Tryz.func54 (by kernel_rfl) rfl (by kernel_rfl) (by rfl) (.inr ⟨trivial, trivial⟩) ?_
 have hl : a.length ≤ 1048576 := hs.1
 repeat' ((conv=>whnf);first|with_reducible (first|refine Lm ?_|refine Wm (by omega) ?_|refine Bf.N (fun h => ?_) (fun h => ?_)|refine Bn ?_|refine Fm rfl ?_)|refine Bt ?_|refine Bu ?_)
 ·refine congrArg (fun z => [B z]) (decide_eq_false fun e => ?_).symm
  subst e
  omega
 have hlab : a.length = b.length := by omega
 (conv=>whnf)
 refine Lp.mk (ι := Nat) (fun i => [(0, .hold .one (rDCacheS .imm a)), (1, .hold .one (rDCacheS .imm b)), (5, .hold .one [I (i : Nat)])]) (fun i => i ≤ a.length ∧ ∀ j, j < i → a[j]? = b[j]?) (fun i => a.length - i) 0 ?_ ⟨Nat.zero_le _, fun j hj => by omega⟩ fun i hi => ?_
 ·repeat' (first|exact trivial|rfl|refine And.intro ?_ ?_)
 ·obtain ⟨hi, hall⟩ := hi
  by_cases hlt : i < a.length
  ·obtain ⟨x, hx⟩ : ∃ x, a[i]? = some x := ⟨_, List.getElem?_eq_getElem hlt⟩
   obtain ⟨y, hy⟩ : ∃ y, b[i]? = some y := ⟨_, List.getElem?_eq_getElem (by omega)⟩
   repeat' ((conv=>whnf);first|with_reducible (first|refine Lm ?_|refine Wm (by omega) ?_|refine Ix.nat (get_map hx) ?_|refine Ix.nat (get_map hy) ?_|refine dT (by omega) (fun h => ?_)|refine Bf.N (fun h => ?_) (fun h => ?_)|refine Bf.NB (fun h => ?_) (fun h => ?_)|refine Bf.D (fun h => ?_) (fun h => ?_)|refine Bn ?_|refine Fm rfl ?_)|refine Bt ?_|refine Bu ?_|refine Cl.mk (eqCache_ok x y (hs.2 x (List.mem_of_getElem? hx))) ?_)
   all_goals first
    |(show [B false] = [B (decide (a = b))]
      refine congrArg (fun z => [B z]) (decide_eq_false fun e => ?_).symm
      subst e
      simp_all)
    | ((conv=>whnf)
       refine Nx.mk (i + 1) ⟨by omega, fun j hj => ?_⟩ (by omega) ?_
       · rcases Nat.lt_or_ge j i with h1 | h1
         · exact hall j h1
         · obtain rfl : j = i := by omega
           rw [hx, hy]
           simp_all
       · repeat' (first|exact trivial|rfl|refine And.intro ?_ ?_))
  ·repeat' ((conv=>whnf);first|with_reducible (first|refine Lm ?_|refine Wm (by omega) ?_|refine dF (by omega) (fun h => ?_)|refine Bn ?_|refine Fm rfl ?_)|refine Bt ?_|refine Bu ?_)
   refine congrArg (fun z => [B z]) (decide_eq_true ?_).symm
   refine List.ext_getElem? fun j => ?_
   rcases Nat.lt_or_ge j i with h1 | h1
   ·exact hall j h1
   ·rw [List.getElem?_eq_none (by omega), List.getElem?_eq_none (by omega)]
theorem eqPost_ok (a b : DPost) (hs : DPost.sml a) : CallsA Tryz.prog 309 false [.val (some 2) (DPost.enc .imm a), .val (some 2) (DPost.enc .imm b)] .one [B (decide (a = b))] := by
 refine fO (n := 15) [] Tryz.func309 (by kernel_rfl) rfl (by kernel_rfl) (by rfl) (.inr ⟨trivial, trivial⟩) ?_
 repeat' ((conv=>whnf);first|with_reducible (first|refine Lm ?_|refine Wm (by omega) ?_|refine Bf.N (fun h => ?_) (fun h => ?_)|refine Bf.NB (fun h => ?_) (fun h => ?_)|refine Bf.D (fun h => ?_) (fun h => ?_)|refine Bn ?_|refine Fm rfl ?_)|refine Bt ?_|refine Bu ?_)
 all_goals first | (show [B false] = [B (decide (a = b))]; refine congrArg (fun z => [B z]) (decide_eq_false fun e => ?_).symm; subst e; contradiction) | (show [B true] = [B (decide (a = b))]; refine congrArg (fun z => [B z]) (decide_eq_true ?_).symm; cases a; cases b; simp_all)
theorem eqPostS_ok (a b : List DPost) (hs : smlDPostS a) : CallsA Tryz.prog 244 false [.val none (rDPostS .imm a), .val none (rDPostS .imm b)] .one [B (decide (a = b))] := by
 refine fO (n := 27) [(6, 10, [17, 18, 19, 20, 21, 22, 23, 24, 25, 26])] Tryz.func244 (by kernel_rfl) rfl (by kernel_rfl) (by rfl) (.inr ⟨trivial, trivial⟩) ?_
 have hl : a.length ≤ 1048576 := hs.1
 repeat' ((conv=>whnf);first|with_reducible (first|refine Lm ?_|refine Wm (by omega) ?_|refine Bf.N (fun h => ?_) (fun h => ?_)|refine Bn ?_|refine Fm rfl ?_)|refine Bt ?_|refine Bu ?_)
 ·refine congrArg (fun z => [B z]) (decide_eq_false fun e => ?_).symm
  subst e
  omega
 have hlab : a.length = b.length := by omega
 (conv=>whnf)
 refine Lp.mk (ι := Nat) (fun i => [(0, .hold .one (rDPostS .imm a)), (1, .hold .one (rDPostS .imm b)), (5, .hold .one [I (i : Nat)])]) (fun i => i ≤ a.length ∧ ∀ j, j < i → a[j]? = b[j]?) (fun i => a.length - i) 0 ?_ ⟨Nat.zero_le _, fun j hj => by omega⟩ fun i hi => ?_
 ·repeat' (first|exact trivial|rfl|refine And.intro ?_ ?_)
 ·obtain ⟨hi, hall⟩ := hi
  by_cases hlt : i < a.length
  ·obtain ⟨x, hx⟩ : ∃ x, a[i]? = some x := ⟨_, List.getElem?_eq_getElem hlt⟩
   obtain ⟨y, hy⟩ : ∃ y, b[i]? = some y := ⟨_, List.getElem?_eq_getElem (by omega)⟩
   repeat' ((conv=>whnf);first|with_reducible (first|refine Lm ?_|refine Wm (by omega) ?_|refine Ix.nat (get_map hx) ?_|refine Ix.nat (get_map hy) ?_|refine dT (by omega) (fun h => ?_)|refine Bf.N (fun h => ?_) (fun h => ?_)|refine Bf.NB (fun h => ?_) (fun h => ?_)|refine Bf.D (fun h => ?_) (fun h => ?_)|refine Bn ?_|refine Fm rfl ?_)|refine Bt ?_|refine Bu ?_|refine Cl.mk (eqPost_ok x y trivial) ?_)
   all_goals first
    |(show [B false] = [B (decide (a = b))]
      refine congrArg (fun z => [B z]) (decide_eq_false fun e => ?_).symm
      subst e
      simp_all)
    | ((conv=>whnf)
       refine Nx.mk (i + 1) ⟨by omega, fun j hj => ?_⟩ (by omega) ?_
       · rcases Nat.lt_or_ge j i with h1 | h1
         · exact hall j h1
         · obtain rfl : j = i := by omega
           rw [hx, hy]
           simp_all
       · repeat' (first|exact trivial|rfl|refine And.intro ?_ ?_))
  ·repeat' ((conv=>whnf);first|with_reducible (first|refine Lm ?_|refine Wm (by omega) ?_|refine dF (by omega) (fun h => ?_)|refine Bn ?_|refine Fm rfl ?_)|refine Bt ?_|refine Bu ?_)
   refine congrArg (fun z => [B z]) (decide_eq_true ?_).symm
   refine List.ext_getElem? fun j => ?_
   rcases Nat.lt_or_ge j i with h1 | h1
   ·exact hall j h1
   ·rw [List.getElem?_eq_none (by omega), List.getElem?_eq_none (by omega)]
theorem eqPostSS_ok (a b : List (List DPost)) (hs : smlDPostSS a) : CallsA Tryz.prog 148 false [.val none (rDPostSS .imm a), .val none (rDPostSS .imm b)] .one [B (decide (a = b))] := by
 refine fO (n := 27) [(6, 10, [17, 18, 19, 20, 21, 22, 23, 24, 25, 26])] Tryz.func148 (by kernel_rfl) rfl (by kernel_rfl) (by rfl) (.inr ⟨trivial, trivial⟩) ?_
 have hl : a.length ≤ 1048576 := hs.1
 repeat' ((conv=>whnf);first|with_reducible (first|refine Lm ?_|refine Wm (by omega) ?_|refine Bf.N (fun h => ?_) (fun h => ?_)|refine Bn ?_|refine Fm rfl ?_)|refine Bt ?_|refine Bu ?_)
 ·refine congrArg (fun z => [B z]) (decide_eq_false fun e => ?_).symm
  subst e
  omega
 have hlab : a.length = b.length := by omega
 (conv=>whnf)
 refine Lp.mk (ι := Nat) (fun i => [(0, .hold .one (rDPostSS .imm a)), (1, .hold .one (rDPostSS .imm b)), (5, .hold .one [I (i : Nat)])]) (fun i => i ≤ a.length ∧ ∀ j, j < i → a[j]? = b[j]?) (fun i => a.length - i) 0 ?_ ⟨Nat.zero_le _, fun j hj => by omega⟩ fun i hi => ?_
 ·repeat' (first|exact trivial|rfl|refine And.intro ?_ ?_)
 ·obtain ⟨hi, hall⟩ := hi
  by_cases hlt : i < a.length
  ·obtain ⟨x, hx⟩ : ∃ x, a[i]? = some x := ⟨_, List.getElem?_eq_getElem hlt⟩
   obtain ⟨y, hy⟩ : ∃ y, b[i]? = some y := ⟨_, List.getElem?_eq_getElem (by omega)⟩
   repeat' ((conv=>whnf);first|with_reducible (first|refine Lm ?_|refine Wm (by omega) ?_|refine Ix.nat (get_map hx) ?_|refine Ix.nat (get_map hy) ?_|refine dT (by omega) (fun h => ?_)|refine Bf.N (fun h => ?_) (fun h => ?_)|refine Bf.NB (fun h => ?_) (fun h => ?_)|refine Bf.D (fun h => ?_) (fun h => ?_)|refine Bn ?_|refine Fm rfl ?_)|refine Bt ?_|refine Bu ?_|refine Cl.mk (eqPostS_ok x y (hs.2 x (List.mem_of_getElem? hx))) ?_)
   all_goals first
    |(show [B false] = [B (decide (a = b))]
      refine congrArg (fun z => [B z]) (decide_eq_false fun e => ?_).symm
      subst e
      simp_all)
    | ((conv=>whnf)
       refine Nx.mk (i + 1) ⟨by omega, fun j hj => ?_⟩ (by omega) ?_
       · rcases Nat.lt_or_ge j i with h1 | h1
         · exact hall j h1
         · obtain rfl : j = i := by omega
           rw [hx, hy]
           simp_all
       · repeat' (first|exact trivial|rfl|refine And.intro ?_ ?_))
  ·repeat' ((conv=>whnf);first|with_reducible (first|refine Lm ?_|refine Wm (by omega) ?_|refine dF (by omega) (fun h => ?_)|refine Bn ?_|refine Fm rfl ?_)|refine Bt ?_|refine Bu ?_)
   refine congrArg (fun z => [B z]) (decide_eq_true ?_).symm
   refine List.ext_getElem? fun j => ?_
   rcases Nat.lt_or_ge j i with h1 | h1
   ·exact hall j h1
   ·rw [List.getElem?_eq_none (by omega), List.getElem?_eq_none (by omega)]
theorem eqMail_ok (a b : DMail) (hs : DMail.sml a) : CallsA Tryz.prog 55 false [.val (some 2) (DMail.enc .imm a), .val (some 2) (DMail.enc .imm b)] .one [B (decide (a = b))] := by
 obtain ⟨h0, h1⟩ := hs
 refine fO (n := 17) [] Tryz.func55 (by kernel_rfl) rfl (by kernel_rfl) (by rfl) (.inr ⟨trivial, trivial⟩) ?_
 repeat' ((conv=>whnf);first|with_reducible (first|refine Lm ?_|refine Wm (by omega) ?_|refine Bf.N (fun h => ?_) (fun h => ?_)|refine Bf.NB (fun h => ?_) (fun h => ?_)|refine Bf.D (fun h => ?_) (fun h => ?_)|refine Bn ?_|refine Fm rfl ?_)|refine Bt ?_|refine Bu ?_|refine Cl.mk (eqPostSS_ok a.Buffers b.Buffers h0) ?_|refine Cl.mk (eqIntSS_ok a.Inbox b.Inbox h1) ?_)
 all_goals first | (show [B false] = [B (decide (a = b))]; refine congrArg (fun z => [B z]) (decide_eq_false fun e => ?_).symm; subst e; contradiction) | (show [B true] = [B (decide (a = b))]; refine congrArg (fun z => [B z]) (decide_eq_true ?_).symm; cases a; cases b; simp_all)
theorem eqStale_ok (a b : DStale) (hs : DStale.sml a) : CallsA Tryz.prog 245 false [.val (some 3) (DStale.enc .imm a), .val (some 3) (DStale.enc .imm b)] .one [B (decide (a = b))] := by
 refine fO (n := 20) [] Tryz.func245 (by kernel_rfl) rfl (by kernel_rfl) (by rfl) (.inr ⟨trivial, trivial⟩) ?_
 repeat' ((conv=>whnf);first|with_reducible (first|refine Lm ?_|refine Wm (by omega) ?_|refine Bf.N (fun h => ?_) (fun h => ?_)|refine Bf.NB (fun h => ?_) (fun h => ?_)|refine Bf.D (fun h => ?_) (fun h => ?_)|refine Bn ?_|refine Fm rfl ?_)|refine Bt ?_|refine Bu ?_)
 all_goals first | (show [B false] = [B (decide (a = b))]; refine congrArg (fun z => [B z]) (decide_eq_false fun e => ?_).symm; subst e; contradiction) | (show [B true] = [B (decide (a = b))]; refine congrArg (fun z => [B z]) (decide_eq_true ?_).symm; cases a; cases b; simp_all)
theorem eqStaleS_ok (a b : List DStale) (hs : smlDStaleS a) : CallsA Tryz.prog 150 false [.val none (rDStaleS .imm a), .val none (rDStaleS .imm b)] .one [B (decide (a = b))] := by
 refine fO (n := 27) [(6, 10, [17, 18, 19, 20, 21, 22, 23, 24, 25, 26])] Tryz.func150 (by kernel_rfl) rfl (by kernel_rfl) (by rfl) (.inr ⟨trivial, trivial⟩) ?_
 have hl : a.length ≤ 1048576 := hs.1
 repeat' ((conv=>whnf);first|with_reducible (first|refine Lm ?_|refine Wm (by omega) ?_|refine Bf.N (fun h => ?_) (fun h => ?_)|refine Bn ?_|refine Fm rfl ?_)|refine Bt ?_|refine Bu ?_)
 ·refine congrArg (fun z => [B z]) (decide_eq_false fun e => ?_).symm
  subst e
  omega
 have hlab : a.length = b.length := by omega
 (conv=>whnf)
 refine Lp.mk (ι := Nat) (fun i => [(0, .hold .one (rDStaleS .imm a)), (1, .hold .one (rDStaleS .imm b)), (5, .hold .one [I (i : Nat)])]) (fun i => i ≤ a.length ∧ ∀ j, j < i → a[j]? = b[j]?) (fun i => a.length - i) 0 ?_ ⟨Nat.zero_le _, fun j hj => by omega⟩ fun i hi => ?_
 ·repeat' (first|exact trivial|rfl|refine And.intro ?_ ?_)
 ·obtain ⟨hi, hall⟩ := hi
  by_cases hlt : i < a.length
  ·obtain ⟨x, hx⟩ : ∃ x, a[i]? = some x := ⟨_, List.getElem?_eq_getElem hlt⟩
   obtain ⟨y, hy⟩ : ∃ y, b[i]? = some y := ⟨_, List.getElem?_eq_getElem (by omega)⟩
   repeat' ((conv=>whnf);first|with_reducible (first|refine Lm ?_|refine Wm (by omega) ?_|refine Ix.nat (get_map hx) ?_|refine Ix.nat (get_map hy) ?_|refine dT (by omega) (fun h => ?_)|refine Bf.N (fun h => ?_) (fun h => ?_)|refine Bf.NB (fun h => ?_) (fun h => ?_)|refine Bf.D (fun h => ?_) (fun h => ?_)|refine Bn ?_|refine Fm rfl ?_)|refine Bt ?_|refine Bu ?_|refine Cl.mk (eqStale_ok x y trivial) ?_)
   all_goals first
    |(show [B false] = [B (decide (a = b))]
      refine congrArg (fun z => [B z]) (decide_eq_false fun e => ?_).symm
      subst e
      simp_all)
    | ((conv=>whnf)
       refine Nx.mk (i + 1) ⟨by omega, fun j hj => ?_⟩ (by omega) ?_
       · rcases Nat.lt_or_ge j i with h1 | h1
         · exact hall j h1
         · obtain rfl : j = i := by omega
           rw [hx, hy]
           simp_all
       · repeat' (first|exact trivial|rfl|refine And.intro ?_ ?_))
  ·repeat' ((conv=>whnf);first|with_reducible (first|refine Lm ?_|refine Wm (by omega) ?_|refine dF (by omega) (fun h => ?_)|refine Bn ?_|refine Fm rfl ?_)|refine Bt ?_|refine Bu ?_)
   refine congrArg (fun z => [B z]) (decide_eq_true ?_).symm
   refine List.ext_getElem? fun j => ?_
   rcases Nat.lt_or_ge j i with h1 | h1
   ·exact hall j h1
   ·rw [List.getElem?_eq_none (by omega), List.getElem?_eq_none (by omega)]
theorem eqQuar_ok (a b : DQuar) (hs : DQuar.sml a) : CallsA Tryz.prog 56 false [.val (some 2) (DQuar.enc .imm a), .val (some 2) (DQuar.enc .imm b)] .one [B (decide (a = b))] := by
 have h0 := hs
 refine fO (n := 16) [] Tryz.func56 (by kernel_rfl) rfl (by kernel_rfl) (by rfl) (.inr ⟨trivial, trivial⟩) ?_
 repeat' ((conv=>whnf);first|with_reducible (first|refine Lm ?_|refine Wm (by omega) ?_|refine Bf.N (fun h => ?_) (fun h => ?_)|refine Bf.NB (fun h => ?_) (fun h => ?_)|refine Bf.D (fun h => ?_) (fun h => ?_)|refine Bn ?_|refine Fm rfl ?_)|refine Bt ?_|refine Bu ?_|refine Cl.mk (eqStaleS_ok a.Lst b.Lst h0) ?_)
 all_goals first | (show [B false] = [B (decide (a = b))]; refine congrArg (fun z => [B z]) (decide_eq_false fun e => ?_).symm; subst e; contradiction) | (show [B true] = [B (decide (a = b))]; refine congrArg (fun z => [B z]) (decide_eq_true ?_).symm; cases a; cases b; simp_all)
theorem eqPlan_ok (a b : DPlan) (hs : DPlan.sml a) : CallsA Tryz.prog 151 false [.val (some 3) (DPlan.enc .imm a), .val (some 3) (DPlan.enc .imm b)] .one [B (decide (a = b))] := by
 have h0 := hs
 refine fO (n := 21) [] Tryz.func151 (by kernel_rfl) rfl (by kernel_rfl) (by rfl) (.inr ⟨trivial, trivial⟩) ?_
 repeat' ((conv=>whnf);first|with_reducible (first|refine Lm ?_|refine Wm (by omega) ?_|refine Bf.N (fun h => ?_) (fun h => ?_)|refine Bf.NB (fun h => ?_) (fun h => ?_)|refine Bf.D (fun h => ?_) (fun h => ?_)|refine Bn ?_|refine Fm rfl ?_)|refine Bt ?_|refine Bu ?_|refine Cl.mk (eqIntS_ok a.Cells b.Cells h0) ?_)
 all_goals first | (show [B false] = [B (decide (a = b))]; refine congrArg (fun z => [B z]) (decide_eq_false fun e => ?_).symm; subst e; contradiction) | (show [B true] = [B (decide (a = b))]; refine congrArg (fun z => [B z]) (decide_eq_true ?_).symm; cases a; cases b; simp_all)
theorem eqJob_ok (a b : DJob) (hs : DJob.sml a) : CallsA Tryz.prog 57 false [.val (some 5) (DJob.enc .imm a), .val (some 5) (DJob.enc .imm b)] .one [B (decide (a = b))] := by
 have h0 := hs
 refine fO (n := 21) [] Tryz.func57 (by kernel_rfl) rfl (by kernel_rfl) (by rfl) (.inr ⟨trivial, trivial⟩) ?_
 repeat' ((conv=>whnf);first|with_reducible (first|refine Lm ?_|refine Wm (by omega) ?_|refine Bf.N (fun h => ?_) (fun h => ?_)|refine Bf.NB (fun h => ?_) (fun h => ?_)|refine Bf.D (fun h => ?_) (fun h => ?_)|refine Bn ?_|refine Fm rfl ?_)|refine Bt ?_|refine Bu ?_|refine Cl.mk (eqPlan_ok a.Plan b.Plan h0) ?_)
 all_goals first | (show [B false] = [B (decide (a = b))]; refine congrArg (fun z => [B z]) (decide_eq_false fun e => ?_).symm; subst e; contradiction) | (show [B true] = [B (decide (a = b))]; refine congrArg (fun z => [B z]) (decide_eq_true ?_).symm; cases a; cases b; simp_all)
theorem eqHeap_ok (a b : DHeap) (hs : DHeap.sml a) : CallsA Tryz.prog 11 false [.val (some 24) (DHeap.enc .imm a), .val (some 24) (DHeap.enc .imm b)] .one [B (decide (a = b))] := by
 obtain ⟨h0, h1, h2, h3, h4, h5, h6, h7, h8⟩ := hs
 refine fO (n := 84) [] Tryz.func11 (by kernel_rfl) rfl (by kernel_rfl) (by rfl) (.inr ⟨trivial, trivial⟩) ?_
 repeat' ((conv=>whnf);first|with_reducible (first|refine Lm ?_|refine Wm (by omega) ?_|refine Bf.N (fun h => ?_) (fun h => ?_)|refine Bf.NB (fun h => ?_) (fun h => ?_)|refine Bf.D (fun h => ?_) (fun h => ?_)|refine Bn ?_|refine Fm rfl ?_)|refine Bt ?_|refine Bu ?_|refine Cl.mk (eqKernel_ok a.Kernel b.Kernel h0) ?_|refine Cl.mk (eqRangeS_ok a.Free b.Free h1) ?_|refine Cl.mk (eqSpanS_ok a.Spans b.Spans h2) ?_|refine Cl.mk (eqLargeS_ok a.Larges b.Larges h3) ?_|refine Cl.mk (eqObjS_ok a.Objs b.Objs h4) ?_|refine Cl.mk (eqCacheS_ok a.Caches b.Caches h5) ?_|refine Cl.mk (eqMail_ok a.Mail b.Mail h6) ?_|refine Cl.mk (eqQuar_ok a.Quar b.Quar h7) ?_|refine Cl.mk (eqJob_ok a.Job b.Job h8) ?_)
 all_goals first | (show [B false] = [B (decide (a = b))]; refine congrArg (fun z => [B z]) (decide_eq_false fun e => ?_).symm; subst e; contradiction) | (show [B true] = [B (decide (a = b))]; refine congrArg (fun z => [B z]) (decide_eq_true ?_).symm; cases a; cases b; simp_all)
end Go.Proofs.YtjgjnlppphejpaaGreat.Ab
/- Contracts of the laws' generic functions at worlds. Printed by gen_con.py. No condition. -/
namespace Go.Proofs.YtjgjnlppphejpaaGreat.Ab
open Go.RowKit
set_option maxRecDepth 20000
set_option maxHeartbeats 2000000

theorem toRefObj_ok (x : DRefObj) (hs : DRefObj.sml x) : CallsA Tryz.prog 266 false [.val (some 2) (DRefObj.enc .imm x)] .agg (DRefObj.enc .own x) := by
 have h0 := hs
 refine fO (n := 12) [] Tryz.func266 (by kernel_rfl) rfl (by kernel_rfl) (by rfl) (.inr (DRefObj.enc_fr x)) ?_
 repeat' ((conv=>whnf);first|with_reducible (first|refine Lm ?_|refine Wm (by omega) ?_|refine Bn ?_|refine Fm rfl ?_)|refine Bt ?_|refine Bu ?_|refine Cl.mk (toIntS_ok x.Cells h0) ?_)
 rfl
theorem toRefObjS_ok (x : List DRefObj) (hx : smlDRefObjS x) : CallsA Tryz.prog 185 false [.val none (rDRefObjS .imm x)] .one (rDRefObjS .own x) := by
 refine fO (n := 23) [] Tryz.func185 (by kernel_rfl) rfl (by kernel_rfl) (by rfl) (.inr (rDRefObjS_fr x)) ?_
 have hl : x.length ≤ 1048576 := hx.1
 have hml : (x.map (DRefObj.enc .own)).length = (List.replicate x.length ([I 0, .z] : List C)).length := by simp
 repeat' ((conv=>whnf);first|with_reducible (first|refine Lm ?_|refine Wm (by omega) ?_|refine Bn ?_|refine Fm rfl ?_)|refine Bt ?_|refine Bu ?_|refine Mk.mk _ rfl rfl (by omega) (mkB hl (by decide)) rfl ?_)
 (conv=>whnf)
 refine Lp.mk (ι := Nat) (fun i => [(0, .hold .one (rDRefObjS .imm x)), (3, .hold .one [.s .own (mixR (x.map (DRefObj.enc .own)) (List.replicate x.length [I 0, .z]) i)]), (4, .hold .one [I (i : Nat)])]) (fun i => i ≤ x.length) (fun i => x.length - i) 0 ?_ (Nat.zero_le _) fun i hi => ?_
 ·rw [mix_zero]
  repeat' (first|exact trivial|rfl|refine And.intro ?_ ?_)
 ·by_cases hlt : i < x.length
  ·obtain ⟨y, hy⟩ : ∃ y, x[i]? = some y := ⟨_, List.getElem?_eq_getElem hlt⟩
   have hr := mix_get hml i (by simp; omega)
   rw [get_rep hlt] at hr
   repeat' ((conv=>whnf);first|with_reducible (first|refine Lm ?_|refine Wm (by omega) ?_|refine dT (by omega) (fun h => ?_)|refine Ix.nat (get_map hy) ?_|refine Ix.nat hr ?_|refine Bn ?_|refine Fm rfl ?_)|refine Bt ?_|refine Bu ?_|refine Cl.mk (toRefObj_ok y (hx.2 y (List.mem_of_getElem? hy))) ?_|refine Pu.one rfl rfl hr rfl (Nat.le_refl _) rfl ?_|refine Nx.mk (i + 1) (by omega) (by omega) ?_)
   repeat' (first|exact trivial|rfl|exact And.intro rfl (And.intro (congrArg (C.s Own.own) (mix_set hml (get_map hy))) trivial)|refine And.intro ?_ ?_)
  ·repeat' ((conv=>whnf);first|with_reducible (first|refine Lm ?_|refine Wm (by omega) ?_|refine dF (by omega) (fun h => ?_)|refine Bn ?_|refine Fm rfl ?_)|refine Bt ?_|refine Bu ?_)
   rw [mix_end _ hml (by simp; omega)]
   rfl
theorem toRefHeap_ok (x : DRefHeap) (hs : DRefHeap.sml x) : CallsA Tryz.prog 83 false [.val (some 2) (DRefHeap.enc .imm x)] .agg (DRefHeap.enc .own x) := by
 have h0 := hs
 refine fO (n := 12) [] Tryz.func83 (by kernel_rfl) rfl (by kernel_rfl) (by rfl) (.inr (DRefHeap.enc_fr x)) ?_
 repeat' ((conv=>whnf);first|with_reducible (first|refine Lm ?_|refine Wm (by omega) ?_|refine Bn ?_|refine Fm rfl ?_)|refine Bt ?_|refine Bu ?_|refine Cl.mk (toRefObjS_ok x.Objs h0) ?_)
 rfl
theorem toWorld_ok (x : DWorld) (hs : DWorld.sml x) : CallsA Tryz.prog 20 false [.val (some 26) (DWorld.enc .imm x)] .agg (DWorld.enc .own x) := by
 obtain ⟨h0, h1⟩ := hs
 refine fO (n := 13) [] Tryz.func20 (by kernel_rfl) rfl (by kernel_rfl) (by rfl) (.inr (DWorld.enc_fr x)) ?_
 repeat' ((conv=>whnf);first|with_reducible (first|refine Lm ?_|refine Wm (by omega) ?_|refine Bn ?_|refine Fm rfl ?_)|refine Bt ?_|refine Bu ?_|refine Cl.mk (toHeap_ok x.Heap h0) ?_|refine Cl.mk (toRefHeap_ok x.Ref h1) ?_)
 rfl
theorem szRefObj_ok (x : DRefObj) (left : Int) (h0 : 0 ≤ left) (h1 : left ≤ 1048576) (hw : DRefObj.wf x) : CallsA Tryz.prog 260 false [.val (some 2) (DRefObj.enc .imm x), .val none [I left]] .one [I (szR (DRefObj.sz x) left)] := by
 obtain ⟨wId, wCells⟩ := hw
 refine fO (n := 12) [] Tryz.func260 (by kernel_rfl) rfl (by kernel_rfl) (by rfl) (.inr ⟨trivial, trivial⟩) ?_
 repeat' ((conv=>whnf);first|with_reducible (first|refine Lm ?_|refine Wm (by omega) ?_|refine dF (by omega) (fun h => ?_)|refine dT (by omega) (fun h => ?_)|refine Bf.D (fun h => ?_) (fun h => ?_)|refine Bn ?_|refine Fm rfl ?_)|refine Bt ?_|refine Bu ?_|refine Cl.sz (szIntS_ok x.Cells _ (by omega) (by omega) wCells) (fun h => ?_) (fun h => ?_))
 all_goals exact congrArg (fun z => [I z]) (by unfold szR DRefObj.sz; split <;> omega)
theorem szRefObjS_ok (x : List DRefObj) (left : Int) (h0 : 0 ≤ left) (h1 : left ≤ 1048576) (hw : wfDRefObjS x) : CallsA Tryz.prog 169 false [.val none (rDRefObjS .imm x), .val none [I left]] .one [I (szR (szDRefObjS x) left)] := by
 refine fO (n := 27) [] Tryz.func169 (by kernel_rfl) rfl (by kernel_rfl) (by rfl) (.inr ⟨trivial, trivial⟩) ?_
 have hl := hw.1
 repeat' ((conv=>whnf);first|with_reducible (first|refine Lm ?_|refine Wm (by omega) ?_|refine dF (by omega) (fun h => ?_)|refine dT (by omega) (fun h => ?_)|refine Bf.D (fun h => ?_) (fun h => ?_)|refine Bn ?_|refine Fm rfl ?_)|refine Bt ?_|refine Bu ?_)
 ·exact congrArg (fun z => [I z]) (by unfold szR szDRefObjS; split <;> omega)
 (conv=>whnf)
 refine Lp.mk (ι := Nat) (fun i => [(0, .hold .one (rDRefObjS .imm x)), (1, .hold .one [I (left - x.length - (spreDRefObjS x i : Nat))]), (5, .hold .one [I (i : Nat)])]) (fun i => i ≤ x.length ∧ (x.length + spreDRefObjS x i : Int) ≤ left) (fun i => x.length - i) 0 ?_ ⟨Nat.zero_le _, by rw [spreDRefObjS_zero]; omega⟩ fun i hi => ?_
 ·rw [spreDRefObjS_zero]
  repeat' (first|exact trivial|rfl|exact And.intro rfl (And.intro (congrArg I (by omega)) trivial)|refine And.intro ?_ ?_)
 ·obtain ⟨hi, hpi⟩ := hi
  have hpl := spreDRefObjS_le x i
  by_cases hlt : i < x.length
  ·obtain ⟨y, hy⟩ : ∃ y, x[i]? = some y := ⟨_, List.getElem?_eq_getElem hlt⟩
   have hps := spreDRefObjS_succ x i y hy
   have hpl2 := spreDRefObjS_le x (i + 1)
   repeat' ((conv=>whnf);first|with_reducible (first|refine Lm ?_|refine Wm (by omega) ?_|refine Ix.nat (get_map hy) ?_|refine dF (by omega) (fun h => ?_)|refine dT (by omega) (fun h => ?_)|refine Bf.D (fun h => ?_) (fun h => ?_)|refine Bn ?_|refine Fm rfl ?_)|refine Bt ?_|refine Bu ?_|refine Cl.sz (szRefObj_ok y _ (by omega) (by omega) (hw.2 y (List.mem_of_getElem? hy))) (fun h => ?_) (fun h => ?_)|refine Nx.mk (i + 1) ⟨by omega, by omega⟩ (by omega) ?_)
   ·exact congrArg (fun z => [I z]) (by unfold szR szDRefObjS; split <;> omega)
   ·rw [hps]
    repeat' (first|exact trivial|rfl|exact And.intro rfl (And.intro (congrArg I (by omega)) trivial)|refine And.intro ?_ ?_)
  ·repeat' ((conv=>whnf);first|with_reducible (first|refine Lm ?_|refine Wm (by omega) ?_|refine dF (by omega) (fun h => ?_)|refine dT (by omega) (fun h => ?_)|refine Bf.D (fun h => ?_) (fun h => ?_)|refine Bn ?_|refine Fm rfl ?_)|refine Bt ?_|refine Bu ?_)
   have he : i = x.length := by omega
   subst he
   rw [spreDRefObjS_all] at hpi ⊢
   exact congrArg (fun z => [I z]) (by unfold szR szDRefObjS; split <;> omega)
theorem szRefHeap_ok (x : DRefHeap) (left : Int) (h0 : 0 ≤ left) (h1 : left ≤ 1048576) (hw : DRefHeap.wf x) : CallsA Tryz.prog 77 false [.val (some 2) (DRefHeap.enc .imm x), .val none [I left]] .one [I (szR (DRefHeap.sz x) left)] := by
 obtain ⟨wNext, wObjs⟩ := hw
 refine fO (n := 12) [] Tryz.func77 (by kernel_rfl) rfl (by kernel_rfl) (by rfl) (.inr ⟨trivial, trivial⟩) ?_
 repeat' ((conv=>whnf);first|with_reducible (first|refine Lm ?_|refine Wm (by omega) ?_|refine dF (by omega) (fun h => ?_)|refine dT (by omega) (fun h => ?_)|refine Bf.D (fun h => ?_) (fun h => ?_)|refine Bn ?_|refine Fm rfl ?_)|refine Bt ?_|refine Bu ?_|refine Cl.sz (szRefObjS_ok x.Objs _ (by omega) (by omega) wObjs) (fun h => ?_) (fun h => ?_))
 all_goals exact congrArg (fun z => [I z]) (by unfold szR DRefHeap.sz; split <;> omega)
theorem szWorld_ok (x : DWorld) (left : Int) (h0 : 0 ≤ left) (h1 : left ≤ 1048576) (hw : DWorld.wf x) : CallsA Tryz.prog 18 false [.val (some 26) (DWorld.enc .imm x), .val none [I left]] .one [I (szR (DWorld.sz x) left)] := by
 obtain ⟨wHeap, wRef⟩ := hw
 refine fO (n := 18) [] Tryz.func18 (by kernel_rfl) rfl (by kernel_rfl) (by rfl) (.inr ⟨trivial, trivial⟩) ?_
 repeat' ((conv=>whnf);first|with_reducible (first|refine Lm ?_|refine Wm (by omega) ?_|refine dF (by omega) (fun h => ?_)|refine dT (by omega) (fun h => ?_)|refine Bf.D (fun h => ?_) (fun h => ?_)|refine Bn ?_|refine Fm rfl ?_)|refine Bt ?_|refine Bu ?_|refine Cl.sz (szHeap_ok x.Heap _ (by omega) (by omega) wHeap) (fun h => ?_) (fun h => ?_)|refine Cl.sz (szRefHeap_ok x.Ref _ (by omega) (by omega) wRef) (fun h => ?_) (fun h => ?_))
 all_goals exact congrArg (fun z => [I z]) (by unfold szR DWorld.sz; split <;> omega)
theorem eqRefObj_ok (a b : DRefObj) (hs : DRefObj.sml a) : CallsA Tryz.prog 283 false [.val (some 2) (DRefObj.enc .imm a), .val (some 2) (DRefObj.enc .imm b)] .one [B (decide (a = b))] := by
 have h0 := hs
 refine fO (n := 16) [] Tryz.func283 (by kernel_rfl) rfl (by kernel_rfl) (by rfl) (.inr ⟨trivial, trivial⟩) ?_
 repeat' ((conv=>whnf);first|with_reducible (first|refine Lm ?_|refine Wm (by omega) ?_|refine Bf.N (fun h => ?_) (fun h => ?_)|refine Bf.NB (fun h => ?_) (fun h => ?_)|refine Bf.D (fun h => ?_) (fun h => ?_)|refine Bn ?_|refine Fm rfl ?_)|refine Bt ?_|refine Bu ?_|refine Cl.mk (eqIntS_ok a.Cells b.Cells h0) ?_)
 all_goals first | (show [B false] = [B (decide (a = b))]; refine congrArg (fun z => [B z]) (decide_eq_false fun e => ?_).symm; subst e; contradiction) | (show [B true] = [B (decide (a = b))]; refine congrArg (fun z => [B z]) (decide_eq_true ?_).symm; cases a; cases b; simp_all)
theorem eqRefObjS_ok (a b : List DRefObj) (hs : smlDRefObjS a) : CallsA Tryz.prog 207 false [.val none (rDRefObjS .imm a), .val none (rDRefObjS .imm b)] .one [B (decide (a = b))] := by
 refine fO (n := 27) [(6, 10, [17, 18, 19, 20, 21, 22, 23, 24, 25, 26])] Tryz.func207 (by kernel_rfl) rfl (by kernel_rfl) (by rfl) (.inr ⟨trivial, trivial⟩) ?_
 have hl : a.length ≤ 1048576 := hs.1
 repeat' ((conv=>whnf);first|with_reducible (first|refine Lm ?_|refine Wm (by omega) ?_|refine Bf.N (fun h => ?_) (fun h => ?_)|refine Bn ?_|refine Fm rfl ?_)|refine Bt ?_|refine Bu ?_)
 ·refine congrArg (fun z => [B z]) (decide_eq_false fun e => ?_).symm
  subst e
  omega
 have hlab : a.length = b.length := by omega
 (conv=>whnf)
 refine Lp.mk (ι := Nat) (fun i => [(0, .hold .one (rDRefObjS .imm a)), (1, .hold .one (rDRefObjS .imm b)), (5, .hold .one [I (i : Nat)])]) (fun i => i ≤ a.length ∧ ∀ j, j < i → a[j]? = b[j]?) (fun i => a.length - i) 0 ?_ ⟨Nat.zero_le _, fun j hj => by omega⟩ fun i hi => ?_
 ·repeat' (first|exact trivial|rfl|refine And.intro ?_ ?_)
 ·obtain ⟨hi, hall⟩ := hi
  by_cases hlt : i < a.length
  ·obtain ⟨x, hx⟩ : ∃ x, a[i]? = some x := ⟨_, List.getElem?_eq_getElem hlt⟩
   obtain ⟨y, hy⟩ : ∃ y, b[i]? = some y := ⟨_, List.getElem?_eq_getElem (by omega)⟩
   repeat' ((conv=>whnf);first|with_reducible (first|refine Lm ?_|refine Wm (by omega) ?_|refine Ix.nat (get_map hx) ?_|refine Ix.nat (get_map hy) ?_|refine dT (by omega) (fun h => ?_)|refine Bf.N (fun h => ?_) (fun h => ?_)|refine Bf.NB (fun h => ?_) (fun h => ?_)|refine Bf.D (fun h => ?_) (fun h => ?_)|refine Bn ?_|refine Fm rfl ?_)|refine Bt ?_|refine Bu ?_|refine Cl.mk (eqRefObj_ok x y (hs.2 x (List.mem_of_getElem? hx))) ?_)
   all_goals first
    |(show [B false] = [B (decide (a = b))]
      refine congrArg (fun z => [B z]) (decide_eq_false fun e => ?_).symm
      subst e
      simp_all)
    | ((conv=>whnf)
       refine Nx.mk (i + 1) ⟨by omega, fun j hj => ?_⟩ (by omega) ?_
       · rcases Nat.lt_or_ge j i with h1 | h1
         · exact hall j h1
         · obtain rfl : j = i := by omega
           rw [hx, hy]
           simp_all
       · repeat' (first|exact trivial|rfl|refine And.intro ?_ ?_))
  ·repeat' ((conv=>whnf);first|with_reducible (first|refine Lm ?_|refine Wm (by omega) ?_|refine dF (by omega) (fun h => ?_)|refine Bn ?_|refine Fm rfl ?_)|refine Bt ?_|refine Bu ?_)
   refine congrArg (fun z => [B z]) (decide_eq_true ?_).symm
   refine List.ext_getElem? fun j => ?_
   rcases Nat.lt_or_ge j i with h1 | h1
   ·exact hall j h1
   ·rw [List.getElem?_eq_none (by omega), List.getElem?_eq_none (by omega)]
theorem eqRefHeap_ok (a b : DRefHeap) (hs : DRefHeap.sml a) : CallsA Tryz.prog 90 false [.val (some 2) (DRefHeap.enc .imm a), .val (some 2) (DRefHeap.enc .imm b)] .one [B (decide (a = b))] := by
 have h0 := hs
 refine fO (n := 16) [] Tryz.func90 (by kernel_rfl) rfl (by kernel_rfl) (by rfl) (.inr ⟨trivial, trivial⟩) ?_
 repeat' ((conv=>whnf);first|with_reducible (first|refine Lm ?_|refine Wm (by omega) ?_|refine Bf.N (fun h => ?_) (fun h => ?_)|refine Bf.NB (fun h => ?_) (fun h => ?_)|refine Bf.D (fun h => ?_) (fun h => ?_)|refine Bn ?_|refine Fm rfl ?_)|refine Bt ?_|refine Bu ?_|refine Cl.mk (eqRefObjS_ok a.Objs b.Objs h0) ?_)
 all_goals first | (show [B false] = [B (decide (a = b))]; refine congrArg (fun z => [B z]) (decide_eq_false fun e => ?_).symm; subst e; contradiction) | (show [B true] = [B (decide (a = b))]; refine congrArg (fun z => [B z]) (decide_eq_true ?_).symm; cases a; cases b; simp_all)
theorem eqWorld_ok (a b : DWorld) (hs : DWorld.sml a) : CallsA Tryz.prog 22 false [.val (some 26) (DWorld.enc .imm a), .val (some 26) (DWorld.enc .imm b)] .one [B (decide (a = b))] := by
 obtain ⟨h0, h1⟩ := hs
 refine fO (n := 17) [] Tryz.func22 (by kernel_rfl) rfl (by kernel_rfl) (by rfl) (.inr ⟨trivial, trivial⟩) ?_
 repeat' ((conv=>whnf);first|with_reducible (first|refine Lm ?_|refine Wm (by omega) ?_|refine Bf.N (fun h => ?_) (fun h => ?_)|refine Bf.NB (fun h => ?_) (fun h => ?_)|refine Bf.D (fun h => ?_) (fun h => ?_)|refine Bn ?_|refine Fm rfl ?_)|refine Bt ?_|refine Bu ?_|refine Cl.mk (eqHeap_ok a.Heap b.Heap h0) ?_|refine Cl.mk (eqRefHeap_ok a.Ref b.Ref h1) ?_)
 all_goals first | (show [B false] = [B (decide (a = b))]; refine congrArg (fun z => [B z]) (decide_eq_false fun e => ?_).symm; subst e; contradiction) | (show [B true] = [B (decide (a = b))]; refine congrArg (fun z => [B z]) (decide_eq_true ?_).symm; cases a; cases b; simp_all)
end Go.Proofs.YtjgjnlppphejpaaGreat.Ab
/- How data that came in reads, as trees of cells. No condition. -/
namespace Go.Proofs.YtjgjnlppphejpaaGreat.Ab
open Go.RowKit Go.ChangeShapes Go.WideShapes Go.Deep

/-- All the memory of a world. -/
def ALL (w : World) : CellSet := fun b _ => b < w.heap.size
/-- Whatever reads as of type t holds a datum (n cells, as enc and wf say). -/
def OpT {H : Type} (e : TypeId × Value → H) (P : Program) (w : World) (t n : Nat) {α : Type} (enc : α → List C) (wf : α → Prop) : Prop :=
 ∀ (fuel : Nat) (cs : List Value) (x : DataW H × List MemPlace), DataW.trod e P w 0 (fun _ => true) true fuel t cs = some x → cs.length = n ∧ ∃ a, wf a ∧ (enc a).length = n ∧ Row w (ALL w) NO (enc a) (fun j => cs.getD j undef)
section
variable {H : Type} {e : TypeId × Value → H} {P : Program} {w : World}

theorem row_one {S F : CellSet} {c : C} {u : Nat → Value} (h : Rep w S F c (u 0)) : Row w S F [c] u :=
 ⟨fun _ => F, fun j c' hj => by cases j with
   | zero => simp at hj; subst hj; exact h
   | succ j => simp at hj, fun _ _ _ _ h => h, fun j j' hj hj' hne => by simp at hj hj'; omega⟩
theorem op_int {t : Nat} (ht : P.underlying t = some (.int .i64)) : OpT e P w t 1 (rI .imm) wfI := by
 intro fuel cs x h
 obtain ⟨n, rfl, -, hw⟩ := DataW.trod_int ht h
 refine ⟨rfl, n, ?_, rfl, row_one (.v _ _ rfl)⟩
 unfold wfI
 simp only [Lit.wf, Bool.and_eq_true, decide_eq_true_eq] at hw
 exact hw
theorem op_bool {t : Nat} (ht : P.underlying t = some .bool) : OpT e P w t 1 (rB .imm) wfB := by
 intro fuel cs x h
 obtain ⟨b, rfl, -⟩ := DataW.trod_bool ht h
 exact ⟨rfl, b, trivial, rfl, row_one (.v _ _ rfl)⟩
theorem pick {α β : Type} (n : Nat) {Q : Nat → β → Prop} (h : ∀ i, i < n → ∃ b, Q i b) : ∃ l : List β, l.length = n ∧ ∀ i b, l[i]? = some b → Q i b := by
 induction n with
 | zero => exact ⟨[], rfl, fun i b h => by simp at h⟩
 | succ n ih =>
  obtain ⟨l, h1, h2⟩ := ih fun i hi => h i (by omega)
  obtain ⟨b, hb⟩ := h n (by omega)
  refine ⟨l ++ [b], by simp [h1], fun i b' hi => ?_⟩
  by_cases hl : i < n
  ·rw [List.getElem?_append_left (by omega)] at hi; exact h2 i b' hi
  ·rw [List.getElem?_append_right (by omega)] at hi
   have : i - l.length = 0 := by
    have := (List.getElem?_eq_some_iff.1 hi).1
    simp at this; omega
   rw [this] at hi
   simp at hi
   subst hi
   rw [show i = n by omega]; exact hb
theorem op_slice {t el n : Nat} {α : Type} {enc : α → List C} {wf : α → Prop} (hel : OpT e P w el n enc wf) (ht : P.underlying t = some (.slice el)) (hn : P.cellsOf el = n) (hpos : 0 < n) :
  OpT e P w t 1 (fun xs : List α => [.s .imm (xs.map enc)]) (fun xs => xs.length ≤ 9223372036854775807 ∧ ∀ y ∈ xs, wf y) := by
 intro fuel cs x h
 rcases open_slice ht h with ⟨rfl, -⟩ | ⟨ad, len, cap, m, n', D, Pl, rfl, -, hl, hm, hmm, -, hi⟩
 ·exact ⟨rfl, [], ⟨by simp, by simp⟩, rfl, row_one (.nil _ _ _ trivial)⟩
 ·simp only [if_true] at hmm
  subst hmm
  have hsp : 0 < m → ad.spot = none := fun hpm => by
   obtain ⟨cs', hc, htr⟩ := hi 0 hpm
   rw [hn] at hc
   obtain ⟨_, hcl, hat⟩ := World.cells?_some hc
   have := hat 0 hpos
   rw [List.getElem?_eq_getElem (by omega)] at this
   have := World.cell?_spot this
   simpa [Addr.add] using this
  have key : ∀ i, i < len → ∃ a, wf a ∧ (enc a).length = n ∧ (∀ d, d < n → ∃ z, cel w ad.block (ad.off + (i * n + d)) = some z) ∧ ad.spot = none ∧ Row w (ALL w) NO (enc a) (fun d => (cel w ad.block (ad.off + (i * n + d))).getD undef) := fun i hil => by
   have hspot := hsp (by omega)
   obtain ⟨cs', hc, htr⟩ := hi i (by omega)
   rw [hn] at hc
   obtain ⟨h1, a, h3, h4, h5⟩ := hel _ _ _ htr
   obtain ⟨_, hcl, hat⟩ := World.cells?_some hc
   have hadd : ∀ d, ad.add d = ⟨ad.block, ad.off + d, none⟩ := fun d => by
    obtain ⟨b, o, sp⟩ := ad
    simp only at hspot
    subst hspot
    unfold Addr.add
    split <;> simp_all
   have hcell : ∀ d, d < n → cel w ad.block (ad.off + (i * n + d)) = cs'[d]? := fun d hd => by
    have := hat d hd
    rw [Go.Deep.add_add, hadd] at this
    exact this
   refine ⟨a, h3, h4, fun d hd => ⟨_, by rw [hcell d hd, List.getElem?_eq_getElem (by omega)]⟩, hspot, h5.congr fun d hd => ?_⟩
   show (cel w ad.block (ad.off + (i * n + d))).getD undef = cs'.getD d undef
   rw [hcell d (by omega), List.getD]
  obtain ⟨l, hll, hlq⟩ := pick (α := α) len key
  refine ⟨rfl, l, ⟨by simp only [maxLen] at hm; omega, fun y hy => ?_⟩, rfl, row_one ?_⟩
  ·obtain ⟨i, hi'⟩ := List.mem_iff_getElem?.1 hy
   exact (hlq i y hi').1
  ·show Rep w (ALL w) NO (.s .imm (l.map enc)) (.slice (some ad) len m)
   by_cases h0 : len = 0
   ·subst h0
    have : l = [] := List.eq_nil_of_length_eq_zero hll
    subst this
    by_cases hc0 : m = 0
    ·subst hc0; exact .nil _ _ _ trivial
    ·have hspot := hsp (by omega)
     obtain ⟨b, o, sp⟩ := ad
     simp only at hspot
     subst hspot
     exact .imm _ b o n 0 m [] (fun _ => undef) rfl (fun r hr => by simp at hr) hl (fun q hq => by simp at hq) (fun i j r c hi => by simp at hi)
   ·obtain ⟨y0, hy0⟩ : ∃ y, l[0]? = some y := ⟨_, List.getElem?_eq_getElem (by omega)⟩
    have hspot := (hlq 0 y0 hy0).2.2.2.1
    obtain ⟨b, o, sp⟩ := ad
    simp only at hspot
    subst hspot
    refine .imm _ b o n len m (l.map enc) (fun q => (cel w b (o + q)).getD undef) (by simpa using hll) (fun r hr => ?_) hl (fun q hq => ?_) (fun i j r c hi hj => ?_)
    ·obtain ⟨y, hy, rfl⟩ := List.mem_map.1 hr
     obtain ⟨i, hi'⟩ := List.mem_iff_getElem?.1 hy
     exact (hlq i y hi').2.1
    ·have hqd : q / n < len := (Nat.div_lt_iff_lt_mul hpos).2 hq
     obtain ⟨y, hy⟩ : ∃ y, l[q / n]? = some y := ⟨_, List.getElem?_eq_getElem (by omega)⟩
     obtain ⟨z, hz⟩ := (hlq _ y hy).2.2.1 (q % n) (Nat.mod_lt _ hpos)
     have hd : q / n * n + q % n = q := by rw [Nat.mul_comm]; exact Nat.div_add_mod q n
     rw [hd] at hz
     exact ⟨cel_lt hz, by simp only at hz ⊢; rw [hz]; rfl⟩
    ·rw [List.getElem?_map] at hi
     cases hli : l[i]? with
     | none => rw [hli] at hi; cases hi
     | some y =>
      rw [hli] at hi
      simp only [Option.map_some, Option.some.injEq] at hi
      subst hi
      obtain ⟨f, h1, h2, -⟩ := (hlq i y hli).2.2.2.2
      have hjl := (List.getElem?_eq_some_iff.1 hj).1
      exact (h1 j c hj).mono (fun _ _ h => h) (h2 j hjl)
/-- A struct's part. -/
theorem op_part {t : Nat} {fs : Array Field} {fuel : Nat} {cs : List Value} {x : DataW H × List MemPlace} (ht : P.underlying t = some (.struct fs)) (h : DataW.trod e P w 0 (fun _ => true) true fuel t cs = some x) (i : Nat) (f : Field) (hf : fs[i]? = some f)
  {n : Nat} {α : Type} {enc : α → List C} {wf : α → Prop} (ho : OpT e P w f.type n enc wf) (hn : P.cellsOf f.type = n) : ∃ a, wf a ∧ (enc a).length = n ∧ Row w (ALL w) NO (enc a) (fun j => cs.getD (f.offset + j) undef) := by
 obtain ⟨ys, n', hn', hy, hlen, hyl, hfl⟩ := DataW.trod_struct ht h
 have h1 := hfl i f hf
 have hi := (Array.getElem?_eq_some_iff.1 hf).1
 rw [List.getElem?_eq_getElem (by omega)] at h1
 rw [hn] at h1
 obtain ⟨e1, a, e2, e3, e4⟩ := ho _ _ _ h1
 refine ⟨a, e2, e3, e4.congr fun j hj => ?_⟩
 simp only [List.getD]
 rw [List.getElem?_take_of_lt (by omega), List.getElem?_drop]
theorem op_cat {cs : List Value} {c1 c2 : List C} {o : Nat} (h1 : Row w (ALL w) NO c1 (fun j => cs.getD (o + j) undef)) (h2 : Row w (ALL w) NO c2 (fun j => cs.getD (o + c1.length + j) undef)) : Row w (ALL w) NO (c1 ++ c2) (fun j => cs.getD (o + j) undef) := by
 refine ((row_append h1 h2 fun _ _ h => h.elim).mono (fun _ _ h => h) (fun _ _ h => h.elim id id)).congr fun j hj => ?_
 by_cases hl : j < c1.length
 ·rw [if_pos hl]
 ·rw [if_neg hl]
  show cs.getD (o + j) undef = cs.getD (o + c1.length + (j - c1.length)) undef
  congr 1; omega
theorem valOk_agg {S : CellSet} {cs : Array Value} {n : Nat} {xs : List C} (h1 : cs.toList.length = n) (h2 : xs.length = n) (h3 : Row w S NO xs (fun j => cs.toList.getD j undef)) : ValOk w S NO (some n) xs (.agg cs) := by
 refine ⟨h2, _, ?_, h3⟩
 have := mkv_agg cs
 rw [show cs.size = n by simpa using h1] at this
 exact this
theorem row_val {S F : CellSet} {x : Value} {u : Nat → Value} (h : Row w S F [.v x] u) : u 0 = x := by
 obtain ⟨f, h1, -⟩ := h
 have := h1 0 _ rfl
 cases this
 rfl
end
end Go.Proofs.YtjgjnlppphejpaaGreat.Ab
/- How the laws' types read. Printed by gen_op.py. No condition. -/
namespace Go.Proofs.YtjgjnlppphejpaaGreat.Ab
open Go.RowKit
set_option maxRecDepth 20000
set_option maxHeartbeats 1000000
section
variable {H : Type} {e : TypeId × Value → H} {w : World}
theorem op_Int : OpT e Tryz.prog w 3 1 (rI .imm) wfI := op_int Tryz.underlying3
theorem op_Bool : OpT e Tryz.prog w 4 1 (rB .imm) wfB := op_bool Tryz.underlying4
theorem op_IntS : OpT e Tryz.prog w 31 1 (rIntS .imm) wfIntS := op_slice op_Int Tryz.underlying31 (by kernel_rfl) (by decide)
theorem op_IntSS : OpT e Tryz.prog w 22 1 (rIntSS .imm) wfIntSS := op_slice op_IntS Tryz.underlying22 (by kernel_rfl) (by decide)
theorem op_BoolS : OpT e Tryz.prog w 23 1 (rBoolS .imm) wfBoolS := op_slice op_Bool Tryz.underlying23 (by kernel_rfl) (by decide)
theorem op_DFrames : OpT e Tryz.prog w 25 2 (DFrames.enc .imm) DFrames.wf := by
 intro fuel cs x h
 obtain ⟨ys, n', -, -, hlen, -⟩ := DataW.trod_struct Tryz.underlying25 h
 obtain ⟨a0, w0, l0, r0⟩ := op_part Tryz.underlying25 h 0 _ rfl op_IntSS (by kernel_rfl)
 obtain ⟨a1, w1, l1, r1⟩ := op_part Tryz.underlying25 h 1 _ rfl op_BoolS (by kernel_rfl)
 have hrow := (op_cat r0 r1)
 exact ⟨hlen.trans (by kernel_rfl), ⟨a0, a1⟩, ⟨w0, w1⟩, rfl, hrow.congr fun j _ => by show cs.getD j undef = cs.getD (0 + j) undef; rw [Nat.zero_add]⟩
theorem op_DEntry : OpT e Tryz.prog w 346 2 (DEntry.enc .imm) DEntry.wf := by
 intro fuel cs x h
 obtain ⟨ys, n', -, -, hlen, -⟩ := DataW.trod_struct Tryz.underlying346 h
 obtain ⟨a0, w0, l0, r0⟩ := op_part Tryz.underlying346 h 0 _ rfl op_Int (by kernel_rfl)
 obtain ⟨a1, w1, l1, r1⟩ := op_part Tryz.underlying346 h 1 _ rfl op_Int (by kernel_rfl)
 have hrow := (op_cat r0 r1)
 exact ⟨hlen.trans (by kernel_rfl), ⟨a0, a1⟩, ⟨w0, w1⟩, rfl, hrow.congr fun j _ => by show cs.getD j undef = cs.getD (0 + j) undef; rw [Nat.zero_add]⟩
theorem op_DEntryS : OpT e Tryz.prog w 26 1 (rDEntryS .imm) wfDEntryS := op_slice op_DEntry Tryz.underlying26 (by kernel_rfl) (by decide)
theorem op_DTable : OpT e Tryz.prog w 28 1 (DTable.enc .imm) DTable.wf := by
 intro fuel cs x h
 obtain ⟨ys, n', -, -, hlen, -⟩ := DataW.trod_struct Tryz.underlying28 h
 obtain ⟨a0, w0, l0, r0⟩ := op_part Tryz.underlying28 h 0 _ rfl op_DEntryS (by kernel_rfl)
 have hrow := r0
 exact ⟨hlen.trans (by kernel_rfl), ⟨a0⟩, w0, rfl, hrow.congr fun j _ => by show cs.getD j undef = cs.getD (0 + j) undef; rw [Nat.zero_add]⟩
theorem op_DMachine : OpT e Tryz.prog w 30 3 (DMachine.enc .imm) DMachine.wf := by
 intro fuel cs x h
 obtain ⟨ys, n', -, -, hlen, -⟩ := DataW.trod_struct Tryz.underlying30 h
 obtain ⟨a0, w0, l0, r0⟩ := op_part Tryz.underlying30 h 0 _ rfl op_DFrames (by kernel_rfl)
 obtain ⟨a1, w1, l1, r1⟩ := op_part Tryz.underlying30 h 1 _ rfl op_DTable (by kernel_rfl)
 have hrow := (op_cat r0 r1)
 exact ⟨hlen.trans (by kernel_rfl), ⟨a0, a1⟩, ⟨w0, w1⟩, rfl, hrow.congr fun j _ => by show cs.getD j undef = cs.getD (0 + j) undef; rw [Nat.zero_add]⟩
theorem op_DKernel : OpT e Tryz.prog w 33 5 (DKernel.enc .imm) DKernel.wf := by
 intro fuel cs x h
 obtain ⟨ys, n', -, -, hlen, -⟩ := DataW.trod_struct Tryz.underlying33 h
 obtain ⟨a0, w0, l0, r0⟩ := op_part Tryz.underlying33 h 0 _ rfl op_DMachine (by kernel_rfl)
 obtain ⟨a1, w1, l1, r1⟩ := op_part Tryz.underlying33 h 1 _ rfl op_Int (by kernel_rfl)
 obtain ⟨a2, w2, l2, r2⟩ := op_part Tryz.underlying33 h 2 _ rfl op_IntS (by kernel_rfl)
 have hrow := (op_cat r0 (op_cat r1 r2))
 exact ⟨hlen.trans (by kernel_rfl), ⟨a0, a1, a2⟩, ⟨w0, w1, w2⟩, rfl, hrow.congr fun j _ => by show cs.getD j undef = cs.getD (0 + j) undef; rw [Nat.zero_add]⟩
theorem op_DRange : OpT e Tryz.prog w 197 2 (DRange.enc .imm) DRange.wf := by
 intro fuel cs x h
 obtain ⟨ys, n', -, -, hlen, -⟩ := DataW.trod_struct Tryz.underlying197 h
 obtain ⟨a0, w0, l0, r0⟩ := op_part Tryz.underlying197 h 0 _ rfl op_Int (by kernel_rfl)
 obtain ⟨a1, w1, l1, r1⟩ := op_part Tryz.underlying197 h 1 _ rfl op_Int (by kernel_rfl)
 have hrow := (op_cat r0 r1)
 exact ⟨hlen.trans (by kernel_rfl), ⟨a0, a1⟩, ⟨w0, w1⟩, rfl, hrow.congr fun j _ => by show cs.getD j undef = cs.getD (0 + j) undef; rw [Nat.zero_add]⟩
theorem op_DRangeS : OpT e Tryz.prog w 34 1 (rDRangeS .imm) wfDRangeS := op_slice op_DRange Tryz.underlying34 (by kernel_rfl) (by decide)
theorem op_DSpan : OpT e Tryz.prog w 201 3 (DSpan.enc .imm) DSpan.wf := by
 intro fuel cs x h
 obtain ⟨ys, n', -, -, hlen, -⟩ := DataW.trod_struct Tryz.underlying201 h
 obtain ⟨a0, w0, l0, r0⟩ := op_part Tryz.underlying201 h 0 _ rfl op_Int (by kernel_rfl)
 obtain ⟨a1, w1, l1, r1⟩ := op_part Tryz.underlying201 h 1 _ rfl op_Int (by kernel_rfl)
 obtain ⟨a2, w2, l2, r2⟩ := op_part Tryz.underlying201 h 2 _ rfl op_Int (by kernel_rfl)
 have hrow := (op_cat r0 (op_cat r1 r2))
 exact ⟨hlen.trans (by kernel_rfl), ⟨a0, a1, a2⟩, ⟨w0, w1, w2⟩, rfl, hrow.congr fun j _ => by show cs.getD j undef = cs.getD (0 + j) undef; rw [Nat.zero_add]⟩
theorem op_DSpanS : OpT e Tryz.prog w 35 1 (rDSpanS .imm) wfDSpanS := op_slice op_DSpan Tryz.underlying35 (by kernel_rfl) (by decide)
theorem op_DLarge : OpT e Tryz.prog w 205 3 (DLarge.enc .imm) DLarge.wf := by
 intro fuel cs x h
 obtain ⟨ys, n', -, -, hlen, -⟩ := DataW.trod_struct Tryz.underlying205 h
 obtain ⟨a0, w0, l0, r0⟩ := op_part Tryz.underlying205 h 0 _ rfl op_Int (by kernel_rfl)
 obtain ⟨a1, w1, l1, r1⟩ := op_part Tryz.underlying205 h 1 _ rfl op_Int (by kernel_rfl)
 obtain ⟨a2, w2, l2, r2⟩ := op_part Tryz.underlying205 h 2 _ rfl op_Int (by kernel_rfl)
 have hrow := (op_cat r0 (op_cat r1 r2))
 exact ⟨hlen.trans (by kernel_rfl), ⟨a0, a1, a2⟩, ⟨w0, w1, w2⟩, rfl, hrow.congr fun j _ => by show cs.getD j undef = cs.getD (0 + j) undef; rw [Nat.zero_add]⟩
theorem op_DLargeS : OpT e Tryz.prog w 36 1 (rDLargeS .imm) wfDLargeS := op_slice op_DLarge Tryz.underlying36 (by kernel_rfl) (by decide)
theorem op_DObj : OpT e Tryz.prog w 207 4 (DObj.enc .imm) DObj.wf := by
 intro fuel cs x h
 obtain ⟨ys, n', -, -, hlen, -⟩ := DataW.trod_struct Tryz.underlying207 h
 obtain ⟨a0, w0, l0, r0⟩ := op_part Tryz.underlying207 h 0 _ rfl op_Int (by kernel_rfl)
 obtain ⟨a1, w1, l1, r1⟩ := op_part Tryz.underlying207 h 1 _ rfl op_Int (by kernel_rfl)
 obtain ⟨a2, w2, l2, r2⟩ := op_part Tryz.underlying207 h 2 _ rfl op_Int (by kernel_rfl)
 obtain ⟨a3, w3, l3, r3⟩ := op_part Tryz.underlying207 h 3 _ rfl op_Int (by kernel_rfl)
 have hrow := (op_cat r0 (op_cat r1 (op_cat r2 r3)))
 exact ⟨hlen.trans (by kernel_rfl), ⟨a0, a1, a2, a3⟩, ⟨w0, w1, w2, w3⟩, rfl, hrow.congr fun j _ => by show cs.getD j undef = cs.getD (0 + j) undef; rw [Nat.zero_add]⟩
theorem op_DObjS : OpT e Tryz.prog w 37 1 (rDObjS .imm) wfDObjS := op_slice op_DObj Tryz.underlying37 (by kernel_rfl) (by decide)
theorem op_DCache : OpT e Tryz.prog w 176 1 (DCache.enc .imm) DCache.wf := by
 intro fuel cs x h
 obtain ⟨ys, n', -, -, hlen, -⟩ := DataW.trod_struct Tryz.underlying176 h
 obtain ⟨a0, w0, l0, r0⟩ := op_part Tryz.underlying176 h 0 _ rfl op_IntSS (by kernel_rfl)
 have hrow := r0
 exact ⟨hlen.trans (by kernel_rfl), ⟨a0⟩, w0, rfl, hrow.congr fun j _ => by show cs.getD j undef = cs.getD (0 + j) undef; rw [Nat.zero_add]⟩
theorem op_DCacheS : OpT e Tryz.prog w 38 1 (rDCacheS .imm) wfDCacheS := op_slice op_DCache Tryz.underlying38 (by kernel_rfl) (by decide)
theorem op_DPost : OpT e Tryz.prog w 331 2 (DPost.enc .imm) DPost.wf := by
 intro fuel cs x h
 obtain ⟨ys, n', -, -, hlen, -⟩ := DataW.trod_struct Tryz.underlying331 h
 obtain ⟨a0, w0, l0, r0⟩ := op_part Tryz.underlying331 h 0 _ rfl op_Int (by kernel_rfl)
 obtain ⟨a1, w1, l1, r1⟩ := op_part Tryz.underlying331 h 1 _ rfl op_Int (by kernel_rfl)
 have hrow := (op_cat r0 r1)
 exact ⟨hlen.trans (by kernel_rfl), ⟨a0, a1⟩, ⟨w0, w1⟩, rfl, hrow.congr fun j _ => by show cs.getD j undef = cs.getD (0 + j) undef; rw [Nat.zero_add]⟩
theorem op_DPostS : OpT e Tryz.prog w 264 1 (rDPostS .imm) wfDPostS := op_slice op_DPost Tryz.underlying264 (by kernel_rfl) (by decide)
theorem op_DPostSS : OpT e Tryz.prog w 39 1 (rDPostSS .imm) wfDPostSS := op_slice op_DPostS Tryz.underlying39 (by kernel_rfl) (by decide)
theorem op_DMail : OpT e Tryz.prog w 41 2 (DMail.enc .imm) DMail.wf := by
 intro fuel cs x h
 obtain ⟨ys, n', -, -, hlen, -⟩ := DataW.trod_struct Tryz.underlying41 h
 obtain ⟨a0, w0, l0, r0⟩ := op_part Tryz.underlying41 h 0 _ rfl op_DPostSS (by kernel_rfl)
 obtain ⟨a1, w1, l1, r1⟩ := op_part Tryz.underlying41 h 1 _ rfl op_IntSS (by kernel_rfl)
 have hrow := (op_cat r0 r1)
 exact ⟨hlen.trans (by kernel_rfl), ⟨a0, a1⟩, ⟨w0, w1⟩, rfl, hrow.congr fun j _ => by show cs.getD j undef = cs.getD (0 + j) undef; rw [Nat.zero_add]⟩
theorem op_DStale : OpT e Tryz.prog w 281 3 (DStale.enc .imm) DStale.wf := by
 intro fuel cs x h
 obtain ⟨ys, n', -, -, hlen, -⟩ := DataW.trod_struct Tryz.underlying281 h
 obtain ⟨a0, w0, l0, r0⟩ := op_part Tryz.underlying281 h 0 _ rfl op_Int (by kernel_rfl)
 obtain ⟨a1, w1, l1, r1⟩ := op_part Tryz.underlying281 h 1 _ rfl op_Int (by kernel_rfl)
 obtain ⟨a2, w2, l2, r2⟩ := op_part Tryz.underlying281 h 2 _ rfl op_Int (by kernel_rfl)
 have hrow := (op_cat r0 (op_cat r1 r2))
 exact ⟨hlen.trans (by kernel_rfl), ⟨a0, a1, a2⟩, ⟨w0, w1, w2⟩, rfl, hrow.congr fun j _ => by show cs.getD j undef = cs.getD (0 + j) undef; rw [Nat.zero_add]⟩
theorem op_DStaleS : OpT e Tryz.prog w 42 1 (rDStaleS .imm) wfDStaleS := op_slice op_DStale Tryz.underlying42 (by kernel_rfl) (by decide)
theorem op_DQuar : OpT e Tryz.prog w 44 2 (DQuar.enc .imm) DQuar.wf := by
 intro fuel cs x h
 obtain ⟨ys, n', -, -, hlen, -⟩ := DataW.trod_struct Tryz.underlying44 h
 obtain ⟨a0, w0, l0, r0⟩ := op_part Tryz.underlying44 h 0 _ rfl op_Int (by kernel_rfl)
 obtain ⟨a1, w1, l1, r1⟩ := op_part Tryz.underlying44 h 1 _ rfl op_DStaleS (by kernel_rfl)
 have hrow := (op_cat r0 r1)
 exact ⟨hlen.trans (by kernel_rfl), ⟨a0, a1⟩, ⟨w0, w1⟩, rfl, hrow.congr fun j _ => by show cs.getD j undef = cs.getD (0 + j) undef; rw [Nat.zero_add]⟩
theorem op_DPlan : OpT e Tryz.prog w 46 3 (DPlan.enc .imm) DPlan.wf := by
 intro fuel cs x h
 obtain ⟨ys, n', -, -, hlen, -⟩ := DataW.trod_struct Tryz.underlying46 h
 obtain ⟨a0, w0, l0, r0⟩ := op_part Tryz.underlying46 h 0 _ rfl op_Int (by kernel_rfl)
 obtain ⟨a1, w1, l1, r1⟩ := op_part Tryz.underlying46 h 1 _ rfl op_Int (by kernel_rfl)
 obtain ⟨a2, w2, l2, r2⟩ := op_part Tryz.underlying46 h 2 _ rfl op_IntS (by kernel_rfl)
 have hrow := (op_cat r0 (op_cat r1 r2))
 exact ⟨hlen.trans (by kernel_rfl), ⟨a0, a1, a2⟩, ⟨w0, w1, w2⟩, rfl, hrow.congr fun j _ => by show cs.getD j undef = cs.getD (0 + j) undef; rw [Nat.zero_add]⟩
theorem op_DJob : OpT e Tryz.prog w 48 5 (DJob.enc .imm) DJob.wf := by
 intro fuel cs x h
 obtain ⟨ys, n', -, -, hlen, -⟩ := DataW.trod_struct Tryz.underlying48 h
 obtain ⟨a0, w0, l0, r0⟩ := op_part Tryz.underlying48 h 0 _ rfl op_DPlan (by kernel_rfl)
 obtain ⟨a1, w1, l1, r1⟩ := op_part Tryz.underlying48 h 1 _ rfl op_Int (by kernel_rfl)
 obtain ⟨a2, w2, l2, r2⟩ := op_part Tryz.underlying48 h 2 _ rfl op_Int (by kernel_rfl)
 have hrow := (op_cat r0 (op_cat r1 r2))
 exact ⟨hlen.trans (by kernel_rfl), ⟨a0, a1, a2⟩, ⟨w0, w1, w2⟩, rfl, hrow.congr fun j _ => by show cs.getD j undef = cs.getD (0 + j) undef; rw [Nat.zero_add]⟩
theorem op_DHeap : OpT e Tryz.prog w 50 24 (DHeap.enc .imm) DHeap.wf := by
 intro fuel cs x h
 obtain ⟨ys, n', -, -, hlen, -⟩ := DataW.trod_struct Tryz.underlying50 h
 obtain ⟨a0, w0, l0, r0⟩ := op_part Tryz.underlying50 h 0 _ rfl op_DKernel (by kernel_rfl)
 obtain ⟨a1, w1, l1, r1⟩ := op_part Tryz.underlying50 h 1 _ rfl op_DRangeS (by kernel_rfl)
 obtain ⟨a2, w2, l2, r2⟩ := op_part Tryz.underlying50 h 2 _ rfl op_DSpanS (by kernel_rfl)
 obtain ⟨a3, w3, l3, r3⟩ := op_part Tryz.underlying50 h 3 _ rfl op_DLargeS (by kernel_rfl)
 obtain ⟨a4, w4, l4, r4⟩ := op_part Tryz.underlying50 h 4 _ rfl op_DObjS (by kernel_rfl)
 obtain ⟨a5, w5, l5, r5⟩ := op_part Tryz.underlying50 h 5 _ rfl op_DCacheS (by kernel_rfl)
 obtain ⟨a6, w6, l6, r6⟩ := op_part Tryz.underlying50 h 6 _ rfl op_DMail (by kernel_rfl)
 obtain ⟨a7, w7, l7, r7⟩ := op_part Tryz.underlying50 h 7 _ rfl op_DQuar (by kernel_rfl)
 obtain ⟨a8, w8, l8, r8⟩ := op_part Tryz.underlying50 h 8 _ rfl op_Int (by kernel_rfl)
 obtain ⟨a9, w9, l9, r9⟩ := op_part Tryz.underlying50 h 9 _ rfl op_Int (by kernel_rfl)
 obtain ⟨a10, w10, l10, r10⟩ := op_part Tryz.underlying50 h 10 _ rfl op_Int (by kernel_rfl)
 obtain ⟨a11, w11, l11, r11⟩ := op_part Tryz.underlying50 h 11 _ rfl op_Int (by kernel_rfl)
 obtain ⟨a12, w12, l12, r12⟩ := op_part Tryz.underlying50 h 12 _ rfl op_Bool (by kernel_rfl)
 obtain ⟨a13, w13, l13, r13⟩ := op_part Tryz.underlying50 h 13 _ rfl op_DJob (by kernel_rfl)
 have hrow := (op_cat r0 (op_cat r1 (op_cat r2 (op_cat r3 (op_cat r4 (op_cat r5 (op_cat r6 (op_cat r7 (op_cat r8 (op_cat r9 (op_cat r10 (op_cat r11 (op_cat r12 r13)))))))))))))
 exact ⟨hlen.trans (by kernel_rfl), ⟨a0, a1, a2, a3, a4, a5, a6, a7, a8, a9, a10, a11, a12, a13⟩, ⟨w0, w1, w2, w3, w4, w5, w6, w7, w8, w9, w10, w11, w12, w13⟩, rfl, hrow.congr fun j _ => by show cs.getD j undef = cs.getD (0 + j) undef; rw [Nat.zero_add]⟩
end
end Go.Proofs.YtjgjnlppphejpaaGreat.Ab
/- How the laws' worlds read. Printed by gen_op.py. No condition. -/
namespace Go.Proofs.YtjgjnlppphejpaaGreat.Ab
open Go.RowKit
set_option maxRecDepth 20000
set_option maxHeartbeats 1000000
section
variable {H : Type} {e : TypeId × Value → H} {w : World}
theorem op_DRefObj : OpT e Tryz.prog w 299 2 (DRefObj.enc .imm) DRefObj.wf := by
 intro fuel cs x h
 obtain ⟨ys, n', -, -, hlen, -⟩ := DataW.trod_struct Tryz.underlying299 h
 obtain ⟨a0, w0, l0, r0⟩ := op_part Tryz.underlying299 h 0 _ rfl op_Int (by kernel_rfl)
 obtain ⟨a1, w1, l1, r1⟩ := op_part Tryz.underlying299 h 1 _ rfl op_IntS (by kernel_rfl)
 have hrow := (op_cat r0 r1)
 exact ⟨hlen.trans (by kernel_rfl), ⟨a0, a1⟩, ⟨w0, w1⟩, rfl, hrow.congr fun j _ => by show cs.getD j undef = cs.getD (0 + j) undef; rw [Nat.zero_add]⟩
theorem op_DRefObjS : OpT e Tryz.prog w 85 1 (rDRefObjS .imm) wfDRefObjS := op_slice op_DRefObj Tryz.underlying85 (by kernel_rfl) (by decide)
theorem op_DRefHeap : OpT e Tryz.prog w 87 2 (DRefHeap.enc .imm) DRefHeap.wf := by
 intro fuel cs x h
 obtain ⟨ys, n', -, -, hlen, -⟩ := DataW.trod_struct Tryz.underlying87 h
 obtain ⟨a0, w0, l0, r0⟩ := op_part Tryz.underlying87 h 0 _ rfl op_Int (by kernel_rfl)
 obtain ⟨a1, w1, l1, r1⟩ := op_part Tryz.underlying87 h 1 _ rfl op_DRefObjS (by kernel_rfl)
 have hrow := (op_cat r0 r1)
 exact ⟨hlen.trans (by kernel_rfl), ⟨a0, a1⟩, ⟨w0, w1⟩, rfl, hrow.congr fun j _ => by show cs.getD j undef = cs.getD (0 + j) undef; rw [Nat.zero_add]⟩
theorem op_DWorld : OpT e Tryz.prog w 89 26 (DWorld.enc .imm) DWorld.wf := by
 intro fuel cs x h
 obtain ⟨ys, n', -, -, hlen, -⟩ := DataW.trod_struct Tryz.underlying89 h
 obtain ⟨a0, w0, l0, r0⟩ := op_part Tryz.underlying89 h 0 _ rfl op_DHeap (by kernel_rfl)
 obtain ⟨a1, w1, l1, r1⟩ := op_part Tryz.underlying89 h 1 _ rfl op_DRefHeap (by kernel_rfl)
 have hrow := (op_cat r0 r1)
 exact ⟨hlen.trans (by kernel_rfl), ⟨a0, a1⟩, ⟨w0, w1⟩, rfl, hrow.congr fun j _ => by show cs.getD j undef = cs.getD (0 + j) undef; rw [Nat.zero_add]⟩
end
end Go.Proofs.YtjgjnlppphejpaaGreat.Ab
