/- Contracts of the laws' generic functions (to). Printed by gen_con.py. No condition. -/
import Derived.Test.YthinjmmlpgjhnaaGreatDat
namespace Go.Proofs.YthinjmmlpgjhnaaGreat.Ab
open Go.RowKit
set_option maxRecDepth 20000
set_option maxHeartbeats 2000000

theorem toIntS_ok (x : List Int) (hx : smlIntS x) : CallsA Tryz.prog 62 false [.val none (rIntS .imm x)] .one (rIntS .own x) := by
  refine fnOk (n := 22) (mo := []) (tb := []) Tryz.func62 (by kernel_rfl) rfl (by kernel_rfl) (by rfl) (.inr (rIntS_fr x)) ?_
  have hl : x.length ≤ 1048576 := hx
  have hml : (x.map (rI .own)).length = (List.replicate x.length ([I 0] : List C)).length := by simp
  repeat' ((conv => whnf); first | with_reducible (first | refine Ln.mk (List.length_map ..) ?_ | refine Wr.mk (wrapI (by omega) (by omega)) ?_ | refine Bf.not ?_ | refine Fin_.mk rfl ?_) | refine Bf.t rfl ?_ | refine Bf.f rfl ?_ | refine Mk.mk _ rfl rfl (by omega) (mkB hl (by decide)) rfl ?_)
  (conv => whnf)
  refine Lp.mk (ι := Nat) (fun i => [(0, .hold .one (rIntS .imm x)), (3, .hold .one [.s .own (mixR (x.map (rI .own)) (List.replicate x.length [I 0]) i)]), (4, .hold .one [I (i : Nat)])]) (fun i => i ≤ x.length) (fun i => x.length - i) 0 ?_ (Nat.zero_le _) fun i hi => ?_
  · rw [mix_zero]
    repeat' (first | exact trivial | rfl | refine And.intro ?_ ?_)
  · by_cases hlt : i < x.length
    · obtain ⟨y, hy⟩ : ∃ y, x[i]? = some y := ⟨_, List.getElem?_eq_getElem hlt⟩
      have hr := mix_get hml i (by simp; omega)
      rw [get_rep hlt] at hr
      repeat' ((conv => whnf); first | with_reducible (first | refine Ln.mk (List.length_map ..) ?_ | refine Wr.mk (wrapI (by omega) (by omega)) ?_ | refine Bf.D (fun h => ?_) (fun h => absurd h (by omega)) | refine Ix.nat (get_map hy) ?_ | refine Ix.nat hr ?_ | refine Bf.not ?_ | refine Fin_.mk rfl ?_) | refine Bf.t rfl ?_ | refine Bf.f rfl ?_ | refine Pu.one rfl rfl hr rfl (Nat.le_refl _) rfl ?_ | refine Nx.mk (i + 1) (by omega) (by omega) ?_)
      repeat' (first | exact trivial | rfl | exact And.intro rfl (And.intro (congrArg (C.s Own.own) (mix_set hml (get_map hy))) trivial) | refine And.intro ?_ ?_)
    · repeat' ((conv => whnf); first | with_reducible (first | refine Ln.mk (List.length_map ..) ?_ | refine Wr.mk (wrapI (by omega) (by omega)) ?_ | refine Bf.D (fun h => absurd h (by omega)) (fun h => ?_) | refine Bf.not ?_ | refine Fin_.mk rfl ?_) | refine Bf.t rfl ?_ | refine Bf.f rfl ?_)
      rw [mix_end _ hml (by simp; omega)]
      rfl
theorem toIntSS_ok (x : List (List Int)) (hx : smlIntSS x) : CallsA Tryz.prog 69 false [.val none (rIntSS .imm x)] .one (rIntSS .own x) := by
  refine fnOk (n := 23) (mo := []) (tb := []) Tryz.func69 (by kernel_rfl) rfl (by kernel_rfl) (by rfl) (.inr (rIntSS_fr x)) ?_
  have hl : x.length ≤ 1048576 := hx.1
  have hml : (x.map (rIntS .own)).length = (List.replicate x.length ([.z] : List C)).length := by simp
  repeat' ((conv => whnf); first | with_reducible (first | refine Ln.mk (List.length_map ..) ?_ | refine Wr.mk (wrapI (by omega) (by omega)) ?_ | refine Bf.not ?_ | refine Fin_.mk rfl ?_) | refine Bf.t rfl ?_ | refine Bf.f rfl ?_ | refine Mk.mk _ rfl rfl (by omega) (mkB hl (by decide)) rfl ?_)
  (conv => whnf)
  refine Lp.mk (ι := Nat) (fun i => [(0, .hold .one (rIntSS .imm x)), (3, .hold .one [.s .own (mixR (x.map (rIntS .own)) (List.replicate x.length [.z]) i)]), (4, .hold .one [I (i : Nat)])]) (fun i => i ≤ x.length) (fun i => x.length - i) 0 ?_ (Nat.zero_le _) fun i hi => ?_
  · rw [mix_zero]
    repeat' (first | exact trivial | rfl | refine And.intro ?_ ?_)
  · by_cases hlt : i < x.length
    · obtain ⟨y, hy⟩ : ∃ y, x[i]? = some y := ⟨_, List.getElem?_eq_getElem hlt⟩
      have hr := mix_get hml i (by simp; omega)
      rw [get_rep hlt] at hr
      repeat' ((conv => whnf); first | with_reducible (first | refine Ln.mk (List.length_map ..) ?_ | refine Wr.mk (wrapI (by omega) (by omega)) ?_ | refine Bf.D (fun h => ?_) (fun h => absurd h (by omega)) | refine Ix.nat (get_map hy) ?_ | refine Ix.nat hr ?_ | refine Bf.not ?_ | refine Fin_.mk rfl ?_) | refine Bf.t rfl ?_ | refine Bf.f rfl ?_ | refine Cl.mk (toIntS_ok y (hx.2 y (List.mem_of_getElem? hy))) ?_ | refine Pu.one rfl rfl hr rfl (Nat.le_refl _) rfl ?_ | refine Nx.mk (i + 1) (by omega) (by omega) ?_)
      repeat' (first | exact trivial | rfl | exact And.intro rfl (And.intro (congrArg (C.s Own.own) (mix_set hml (get_map hy))) trivial) | refine And.intro ?_ ?_)
    · repeat' ((conv => whnf); first | with_reducible (first | refine Ln.mk (List.length_map ..) ?_ | refine Wr.mk (wrapI (by omega) (by omega)) ?_ | refine Bf.D (fun h => absurd h (by omega)) (fun h => ?_) | refine Bf.not ?_ | refine Fin_.mk rfl ?_) | refine Bf.t rfl ?_ | refine Bf.f rfl ?_)
      rw [mix_end _ hml (by simp; omega)]
      rfl
theorem toBoolS_ok (x : List Bool) (hx : smlBoolS x) : CallsA Tryz.prog 111 false [.val none (rBoolS .imm x)] .one (rBoolS .own x) := by
  refine fnOk (n := 22) (mo := []) (tb := []) Tryz.func111 (by kernel_rfl) rfl (by kernel_rfl) (by rfl) (.inr (rBoolS_fr x)) ?_
  have hl : x.length ≤ 1048576 := hx
  have hml : (x.map (rB .own)).length = (List.replicate x.length ([B false] : List C)).length := by simp
  repeat' ((conv => whnf); first | with_reducible (first | refine Ln.mk (List.length_map ..) ?_ | refine Wr.mk (wrapI (by omega) (by omega)) ?_ | refine Bf.not ?_ | refine Fin_.mk rfl ?_) | refine Bf.t rfl ?_ | refine Bf.f rfl ?_ | refine Mk.mk _ rfl rfl (by omega) (mkB hl (by decide)) rfl ?_)
  (conv => whnf)
  refine Lp.mk (ι := Nat) (fun i => [(0, .hold .one (rBoolS .imm x)), (3, .hold .one [.s .own (mixR (x.map (rB .own)) (List.replicate x.length [B false]) i)]), (4, .hold .one [I (i : Nat)])]) (fun i => i ≤ x.length) (fun i => x.length - i) 0 ?_ (Nat.zero_le _) fun i hi => ?_
  · rw [mix_zero]
    repeat' (first | exact trivial | rfl | refine And.intro ?_ ?_)
  · by_cases hlt : i < x.length
    · obtain ⟨y, hy⟩ : ∃ y, x[i]? = some y := ⟨_, List.getElem?_eq_getElem hlt⟩
      have hr := mix_get hml i (by simp; omega)
      rw [get_rep hlt] at hr
      repeat' ((conv => whnf); first | with_reducible (first | refine Ln.mk (List.length_map ..) ?_ | refine Wr.mk (wrapI (by omega) (by omega)) ?_ | refine Bf.D (fun h => ?_) (fun h => absurd h (by omega)) | refine Ix.nat (get_map hy) ?_ | refine Ix.nat hr ?_ | refine Bf.not ?_ | refine Fin_.mk rfl ?_) | refine Bf.t rfl ?_ | refine Bf.f rfl ?_ | refine Pu.one rfl rfl hr rfl (Nat.le_refl _) rfl ?_ | refine Nx.mk (i + 1) (by omega) (by omega) ?_)
      repeat' (first | exact trivial | rfl | exact And.intro rfl (And.intro (congrArg (C.s Own.own) (mix_set hml (get_map hy))) trivial) | refine And.intro ?_ ?_)
    · repeat' ((conv => whnf); first | with_reducible (first | refine Ln.mk (List.length_map ..) ?_ | refine Wr.mk (wrapI (by omega) (by omega)) ?_ | refine Bf.D (fun h => absurd h (by omega)) (fun h => ?_) | refine Bf.not ?_ | refine Fin_.mk rfl ?_) | refine Bf.t rfl ?_ | refine Bf.f rfl ?_)
      rw [mix_end _ hml (by simp; omega)]
      rfl
theorem toFrames_ok (x : DFrames) (hs : DFrames.sml x) : CallsA Tryz.prog 94 false [.val (some 2) (DFrames.enc .imm x)] .agg (DFrames.enc .own x) := by
  obtain ⟨h0, h1⟩ := hs
  refine fnOk (n := 13) (mo := []) (tb := []) Tryz.func94 (by kernel_rfl) rfl (by kernel_rfl) (by rfl) (.inr (DFrames.enc_fr x)) ?_
  repeat' ((conv => whnf); first | with_reducible (first | refine Ln.mk (List.length_map ..) ?_ | refine Wr.mk (wrapI (by omega) (by omega)) ?_ | refine Bf.not ?_ | refine Fin_.mk rfl ?_) | refine Bf.t rfl ?_ | refine Bf.f rfl ?_ | refine Cl.mk (toIntSS_ok x.Cells h0) ?_ | refine Cl.mk (toBoolS_ok x.Used h1) ?_)
  rfl
theorem toEntry_ok (x : DEntry) (hs : DEntry.sml x) : CallsA Tryz.prog 119 false [.val (some 2) (DEntry.enc .imm x)] .agg (DEntry.enc .own x) := by
  refine fnOk (n := 11) (mo := []) (tb := []) Tryz.func119 (by kernel_rfl) rfl (by kernel_rfl) (by rfl) (.inr (DEntry.enc_fr x)) ?_
  repeat' ((conv => whnf); first | with_reducible (first | refine Ln.mk (List.length_map ..) ?_ | refine Wr.mk (wrapI (by omega) (by omega)) ?_ | refine Bf.not ?_ | refine Fin_.mk rfl ?_) | refine Bf.t rfl ?_ | refine Bf.f rfl ?_)
  rfl
theorem toEntryS_ok (x : List DEntry) (hx : smlDEntryS x) : CallsA Tryz.prog 112 false [.val none (rDEntryS .imm x)] .one (rDEntryS .own x) := by
  refine fnOk (n := 23) (mo := []) (tb := []) Tryz.func112 (by kernel_rfl) rfl (by kernel_rfl) (by rfl) (.inr (rDEntryS_fr x)) ?_
  have hl : x.length ≤ 1048576 := hx.1
  have hml : (x.map (DEntry.enc .own)).length = (List.replicate x.length ([I 0, I 0] : List C)).length := by simp
  repeat' ((conv => whnf); first | with_reducible (first | refine Ln.mk (List.length_map ..) ?_ | refine Wr.mk (wrapI (by omega) (by omega)) ?_ | refine Bf.not ?_ | refine Fin_.mk rfl ?_) | refine Bf.t rfl ?_ | refine Bf.f rfl ?_ | refine Mk.mk _ rfl rfl (by omega) (mkB hl (by decide)) rfl ?_)
  (conv => whnf)
  refine Lp.mk (ι := Nat) (fun i => [(0, .hold .one (rDEntryS .imm x)), (3, .hold .one [.s .own (mixR (x.map (DEntry.enc .own)) (List.replicate x.length [I 0, I 0]) i)]), (4, .hold .one [I (i : Nat)])]) (fun i => i ≤ x.length) (fun i => x.length - i) 0 ?_ (Nat.zero_le _) fun i hi => ?_
  · rw [mix_zero]
    repeat' (first | exact trivial | rfl | refine And.intro ?_ ?_)
  · by_cases hlt : i < x.length
    · obtain ⟨y, hy⟩ : ∃ y, x[i]? = some y := ⟨_, List.getElem?_eq_getElem hlt⟩
      have hr := mix_get hml i (by simp; omega)
      rw [get_rep hlt] at hr
      repeat' ((conv => whnf); first | with_reducible (first | refine Ln.mk (List.length_map ..) ?_ | refine Wr.mk (wrapI (by omega) (by omega)) ?_ | refine Bf.D (fun h => ?_) (fun h => absurd h (by omega)) | refine Ix.nat (get_map hy) ?_ | refine Ix.nat hr ?_ | refine Bf.not ?_ | refine Fin_.mk rfl ?_) | refine Bf.t rfl ?_ | refine Bf.f rfl ?_ | refine Cl.mk (toEntry_ok y trivial) ?_ | refine Pu.one rfl rfl hr rfl (Nat.le_refl _) rfl ?_ | refine Nx.mk (i + 1) (by omega) (by omega) ?_)
      repeat' (first | exact trivial | rfl | exact And.intro rfl (And.intro (congrArg (C.s Own.own) (mix_set hml (get_map hy))) trivial) | refine And.intro ?_ ?_)
    · repeat' ((conv => whnf); first | with_reducible (first | refine Ln.mk (List.length_map ..) ?_ | refine Wr.mk (wrapI (by omega) (by omega)) ?_ | refine Bf.D (fun h => absurd h (by omega)) (fun h => ?_) | refine Bf.not ?_ | refine Fin_.mk rfl ?_) | refine Bf.t rfl ?_ | refine Bf.f rfl ?_)
      rw [mix_end _ hml (by simp; omega)]
      rfl
theorem toTable_ok (x : DTable) (hs : DTable.sml x) : CallsA Tryz.prog 95 false [.val (some 1) (DTable.enc .imm x)] .agg (DTable.enc .own x) := by
  have h0 := hs
  refine fnOk (n := 9) (mo := []) (tb := []) Tryz.func95 (by kernel_rfl) rfl (by kernel_rfl) (by rfl) (.inr (DTable.enc_fr x)) ?_
  repeat' ((conv => whnf); first | with_reducible (first | refine Ln.mk (List.length_map ..) ?_ | refine Wr.mk (wrapI (by omega) (by omega)) ?_ | refine Bf.not ?_ | refine Fin_.mk rfl ?_) | refine Bf.t rfl ?_ | refine Bf.f rfl ?_ | refine Cl.mk (toEntryS_ok x.Entries h0) ?_)
  rfl
theorem toMachine_ok (x : DMachine) (hs : DMachine.sml x) : CallsA Tryz.prog 61 false [.val (some 3) (DMachine.enc .imm x)] .agg (DMachine.enc .own x) := by
  obtain ⟨h0, h1⟩ := hs
  refine fnOk (n := 13) (mo := []) (tb := []) Tryz.func61 (by kernel_rfl) rfl (by kernel_rfl) (by rfl) (.inr (DMachine.enc_fr x)) ?_
  repeat' ((conv => whnf); first | with_reducible (first | refine Ln.mk (List.length_map ..) ?_ | refine Wr.mk (wrapI (by omega) (by omega)) ?_ | refine Bf.not ?_ | refine Fin_.mk rfl ?_) | refine Bf.t rfl ?_ | refine Bf.f rfl ?_ | refine Cl.mk (toFrames_ok x.Frames h0) ?_ | refine Cl.mk (toTable_ok x.Table h1) ?_)
  rfl
theorem toKernel_ok (x : DKernel) (hs : DKernel.sml x) : CallsA Tryz.prog 25 false [.val (some 5) (DKernel.enc .imm x)] .agg (DKernel.enc .own x) := by
  obtain ⟨h0, h1⟩ := hs
  refine fnOk (n := 16) (mo := []) (tb := []) Tryz.func25 (by kernel_rfl) rfl (by kernel_rfl) (by rfl) (.inr (DKernel.enc_fr x)) ?_
  repeat' ((conv => whnf); first | with_reducible (first | refine Ln.mk (List.length_map ..) ?_ | refine Wr.mk (wrapI (by omega) (by omega)) ?_ | refine Bf.not ?_ | refine Fin_.mk rfl ?_) | refine Bf.t rfl ?_ | refine Bf.f rfl ?_ | refine Cl.mk (toMachine_ok x.Machine h0) ?_ | refine Cl.mk (toIntS_ok x.Refuse h1) ?_)
  rfl
theorem toRange_ok (x : DRange) (hs : DRange.sml x) : CallsA Tryz.prog 63 false [.val (some 2) (DRange.enc .imm x)] .agg (DRange.enc .own x) := by
  refine fnOk (n := 11) (mo := []) (tb := []) Tryz.func63 (by kernel_rfl) rfl (by kernel_rfl) (by rfl) (.inr (DRange.enc_fr x)) ?_
  repeat' ((conv => whnf); first | with_reducible (first | refine Ln.mk (List.length_map ..) ?_ | refine Wr.mk (wrapI (by omega) (by omega)) ?_ | refine Bf.not ?_ | refine Fin_.mk rfl ?_) | refine Bf.t rfl ?_ | refine Bf.f rfl ?_)
  rfl
theorem toRangeS_ok (x : List DRange) (hx : smlDRangeS x) : CallsA Tryz.prog 26 false [.val none (rDRangeS .imm x)] .one (rDRangeS .own x) := by
  refine fnOk (n := 23) (mo := []) (tb := []) Tryz.func26 (by kernel_rfl) rfl (by kernel_rfl) (by rfl) (.inr (rDRangeS_fr x)) ?_
  have hl : x.length ≤ 1048576 := hx.1
  have hml : (x.map (DRange.enc .own)).length = (List.replicate x.length ([I 0, I 0] : List C)).length := by simp
  repeat' ((conv => whnf); first | with_reducible (first | refine Ln.mk (List.length_map ..) ?_ | refine Wr.mk (wrapI (by omega) (by omega)) ?_ | refine Bf.not ?_ | refine Fin_.mk rfl ?_) | refine Bf.t rfl ?_ | refine Bf.f rfl ?_ | refine Mk.mk _ rfl rfl (by omega) (mkB hl (by decide)) rfl ?_)
  (conv => whnf)
  refine Lp.mk (ι := Nat) (fun i => [(0, .hold .one (rDRangeS .imm x)), (3, .hold .one [.s .own (mixR (x.map (DRange.enc .own)) (List.replicate x.length [I 0, I 0]) i)]), (4, .hold .one [I (i : Nat)])]) (fun i => i ≤ x.length) (fun i => x.length - i) 0 ?_ (Nat.zero_le _) fun i hi => ?_
  · rw [mix_zero]
    repeat' (first | exact trivial | rfl | refine And.intro ?_ ?_)
  · by_cases hlt : i < x.length
    · obtain ⟨y, hy⟩ : ∃ y, x[i]? = some y := ⟨_, List.getElem?_eq_getElem hlt⟩
      have hr := mix_get hml i (by simp; omega)
      rw [get_rep hlt] at hr
      repeat' ((conv => whnf); first | with_reducible (first | refine Ln.mk (List.length_map ..) ?_ | refine Wr.mk (wrapI (by omega) (by omega)) ?_ | refine Bf.D (fun h => ?_) (fun h => absurd h (by omega)) | refine Ix.nat (get_map hy) ?_ | refine Ix.nat hr ?_ | refine Bf.not ?_ | refine Fin_.mk rfl ?_) | refine Bf.t rfl ?_ | refine Bf.f rfl ?_ | refine Cl.mk (toRange_ok y trivial) ?_ | refine Pu.one rfl rfl hr rfl (Nat.le_refl _) rfl ?_ | refine Nx.mk (i + 1) (by omega) (by omega) ?_)
      repeat' (first | exact trivial | rfl | exact And.intro rfl (And.intro (congrArg (C.s Own.own) (mix_set hml (get_map hy))) trivial) | refine And.intro ?_ ?_)
    · repeat' ((conv => whnf); first | with_reducible (first | refine Ln.mk (List.length_map ..) ?_ | refine Wr.mk (wrapI (by omega) (by omega)) ?_ | refine Bf.D (fun h => absurd h (by omega)) (fun h => ?_) | refine Bf.not ?_ | refine Fin_.mk rfl ?_) | refine Bf.t rfl ?_ | refine Bf.f rfl ?_)
      rw [mix_end _ hml (by simp; omega)]
      rfl
theorem toSpan_ok (x : DSpan) (hs : DSpan.sml x) : CallsA Tryz.prog 64 false [.val (some 3) (DSpan.enc .imm x)] .agg (DSpan.enc .own x) := by
  refine fnOk (n := 14) (mo := []) (tb := []) Tryz.func64 (by kernel_rfl) rfl (by kernel_rfl) (by rfl) (.inr (DSpan.enc_fr x)) ?_
  repeat' ((conv => whnf); first | with_reducible (first | refine Ln.mk (List.length_map ..) ?_ | refine Wr.mk (wrapI (by omega) (by omega)) ?_ | refine Bf.not ?_ | refine Fin_.mk rfl ?_) | refine Bf.t rfl ?_ | refine Bf.f rfl ?_)
  rfl
theorem toSpanS_ok (x : List DSpan) (hx : smlDSpanS x) : CallsA Tryz.prog 27 false [.val none (rDSpanS .imm x)] .one (rDSpanS .own x) := by
  refine fnOk (n := 23) (mo := []) (tb := []) Tryz.func27 (by kernel_rfl) rfl (by kernel_rfl) (by rfl) (.inr (rDSpanS_fr x)) ?_
  have hl : x.length ≤ 1048576 := hx.1
  have hml : (x.map (DSpan.enc .own)).length = (List.replicate x.length ([I 0, I 0, I 0] : List C)).length := by simp
  repeat' ((conv => whnf); first | with_reducible (first | refine Ln.mk (List.length_map ..) ?_ | refine Wr.mk (wrapI (by omega) (by omega)) ?_ | refine Bf.not ?_ | refine Fin_.mk rfl ?_) | refine Bf.t rfl ?_ | refine Bf.f rfl ?_ | refine Mk.mk _ rfl rfl (by omega) (mkB hl (by decide)) rfl ?_)
  (conv => whnf)
  refine Lp.mk (ι := Nat) (fun i => [(0, .hold .one (rDSpanS .imm x)), (3, .hold .one [.s .own (mixR (x.map (DSpan.enc .own)) (List.replicate x.length [I 0, I 0, I 0]) i)]), (4, .hold .one [I (i : Nat)])]) (fun i => i ≤ x.length) (fun i => x.length - i) 0 ?_ (Nat.zero_le _) fun i hi => ?_
  · rw [mix_zero]
    repeat' (first | exact trivial | rfl | refine And.intro ?_ ?_)
  · by_cases hlt : i < x.length
    · obtain ⟨y, hy⟩ : ∃ y, x[i]? = some y := ⟨_, List.getElem?_eq_getElem hlt⟩
      have hr := mix_get hml i (by simp; omega)
      rw [get_rep hlt] at hr
      repeat' ((conv => whnf); first | with_reducible (first | refine Ln.mk (List.length_map ..) ?_ | refine Wr.mk (wrapI (by omega) (by omega)) ?_ | refine Bf.D (fun h => ?_) (fun h => absurd h (by omega)) | refine Ix.nat (get_map hy) ?_ | refine Ix.nat hr ?_ | refine Bf.not ?_ | refine Fin_.mk rfl ?_) | refine Bf.t rfl ?_ | refine Bf.f rfl ?_ | refine Cl.mk (toSpan_ok y trivial) ?_ | refine Pu.one rfl rfl hr rfl (Nat.le_refl _) rfl ?_ | refine Nx.mk (i + 1) (by omega) (by omega) ?_)
      repeat' (first | exact trivial | rfl | exact And.intro rfl (And.intro (congrArg (C.s Own.own) (mix_set hml (get_map hy))) trivial) | refine And.intro ?_ ?_)
    · repeat' ((conv => whnf); first | with_reducible (first | refine Ln.mk (List.length_map ..) ?_ | refine Wr.mk (wrapI (by omega) (by omega)) ?_ | refine Bf.D (fun h => absurd h (by omega)) (fun h => ?_) | refine Bf.not ?_ | refine Fin_.mk rfl ?_) | refine Bf.t rfl ?_ | refine Bf.f rfl ?_)
      rw [mix_end _ hml (by simp; omega)]
      rfl
theorem toLarge_ok (x : DLarge) (hs : DLarge.sml x) : CallsA Tryz.prog 65 false [.val (some 3) (DLarge.enc .imm x)] .agg (DLarge.enc .own x) := by
  refine fnOk (n := 14) (mo := []) (tb := []) Tryz.func65 (by kernel_rfl) rfl (by kernel_rfl) (by rfl) (.inr (DLarge.enc_fr x)) ?_
  repeat' ((conv => whnf); first | with_reducible (first | refine Ln.mk (List.length_map ..) ?_ | refine Wr.mk (wrapI (by omega) (by omega)) ?_ | refine Bf.not ?_ | refine Fin_.mk rfl ?_) | refine Bf.t rfl ?_ | refine Bf.f rfl ?_)
  rfl
theorem toLargeS_ok (x : List DLarge) (hx : smlDLargeS x) : CallsA Tryz.prog 28 false [.val none (rDLargeS .imm x)] .one (rDLargeS .own x) := by
  refine fnOk (n := 23) (mo := []) (tb := []) Tryz.func28 (by kernel_rfl) rfl (by kernel_rfl) (by rfl) (.inr (rDLargeS_fr x)) ?_
  have hl : x.length ≤ 1048576 := hx.1
  have hml : (x.map (DLarge.enc .own)).length = (List.replicate x.length ([I 0, I 0, I 0] : List C)).length := by simp
  repeat' ((conv => whnf); first | with_reducible (first | refine Ln.mk (List.length_map ..) ?_ | refine Wr.mk (wrapI (by omega) (by omega)) ?_ | refine Bf.not ?_ | refine Fin_.mk rfl ?_) | refine Bf.t rfl ?_ | refine Bf.f rfl ?_ | refine Mk.mk _ rfl rfl (by omega) (mkB hl (by decide)) rfl ?_)
  (conv => whnf)
  refine Lp.mk (ι := Nat) (fun i => [(0, .hold .one (rDLargeS .imm x)), (3, .hold .one [.s .own (mixR (x.map (DLarge.enc .own)) (List.replicate x.length [I 0, I 0, I 0]) i)]), (4, .hold .one [I (i : Nat)])]) (fun i => i ≤ x.length) (fun i => x.length - i) 0 ?_ (Nat.zero_le _) fun i hi => ?_
  · rw [mix_zero]
    repeat' (first | exact trivial | rfl | refine And.intro ?_ ?_)
  · by_cases hlt : i < x.length
    · obtain ⟨y, hy⟩ : ∃ y, x[i]? = some y := ⟨_, List.getElem?_eq_getElem hlt⟩
      have hr := mix_get hml i (by simp; omega)
      rw [get_rep hlt] at hr
      repeat' ((conv => whnf); first | with_reducible (first | refine Ln.mk (List.length_map ..) ?_ | refine Wr.mk (wrapI (by omega) (by omega)) ?_ | refine Bf.D (fun h => ?_) (fun h => absurd h (by omega)) | refine Ix.nat (get_map hy) ?_ | refine Ix.nat hr ?_ | refine Bf.not ?_ | refine Fin_.mk rfl ?_) | refine Bf.t rfl ?_ | refine Bf.f rfl ?_ | refine Cl.mk (toLarge_ok y trivial) ?_ | refine Pu.one rfl rfl hr rfl (Nat.le_refl _) rfl ?_ | refine Nx.mk (i + 1) (by omega) (by omega) ?_)
      repeat' (first | exact trivial | rfl | exact And.intro rfl (And.intro (congrArg (C.s Own.own) (mix_set hml (get_map hy))) trivial) | refine And.intro ?_ ?_)
    · repeat' ((conv => whnf); first | with_reducible (first | refine Ln.mk (List.length_map ..) ?_ | refine Wr.mk (wrapI (by omega) (by omega)) ?_ | refine Bf.D (fun h => absurd h (by omega)) (fun h => ?_) | refine Bf.not ?_ | refine Fin_.mk rfl ?_) | refine Bf.t rfl ?_ | refine Bf.f rfl ?_)
      rw [mix_end _ hml (by simp; omega)]
      rfl
theorem toObj_ok (x : DObj) (hs : DObj.sml x) : CallsA Tryz.prog 66 false [.val (some 4) (DObj.enc .imm x)] .agg (DObj.enc .own x) := by
  refine fnOk (n := 17) (mo := []) (tb := []) Tryz.func66 (by kernel_rfl) rfl (by kernel_rfl) (by rfl) (.inr (DObj.enc_fr x)) ?_
  repeat' ((conv => whnf); first | with_reducible (first | refine Ln.mk (List.length_map ..) ?_ | refine Wr.mk (wrapI (by omega) (by omega)) ?_ | refine Bf.not ?_ | refine Fin_.mk rfl ?_) | refine Bf.t rfl ?_ | refine Bf.f rfl ?_)
  rfl
theorem toObjS_ok (x : List DObj) (hx : smlDObjS x) : CallsA Tryz.prog 29 false [.val none (rDObjS .imm x)] .one (rDObjS .own x) := by
  refine fnOk (n := 23) (mo := []) (tb := []) Tryz.func29 (by kernel_rfl) rfl (by kernel_rfl) (by rfl) (.inr (rDObjS_fr x)) ?_
  have hl : x.length ≤ 1048576 := hx.1
  have hml : (x.map (DObj.enc .own)).length = (List.replicate x.length ([I 0, I 0, I 0, I 0] : List C)).length := by simp
  repeat' ((conv => whnf); first | with_reducible (first | refine Ln.mk (List.length_map ..) ?_ | refine Wr.mk (wrapI (by omega) (by omega)) ?_ | refine Bf.not ?_ | refine Fin_.mk rfl ?_) | refine Bf.t rfl ?_ | refine Bf.f rfl ?_ | refine Mk.mk _ rfl rfl (by omega) (mkB hl (by decide)) rfl ?_)
  (conv => whnf)
  refine Lp.mk (ι := Nat) (fun i => [(0, .hold .one (rDObjS .imm x)), (3, .hold .one [.s .own (mixR (x.map (DObj.enc .own)) (List.replicate x.length [I 0, I 0, I 0, I 0]) i)]), (4, .hold .one [I (i : Nat)])]) (fun i => i ≤ x.length) (fun i => x.length - i) 0 ?_ (Nat.zero_le _) fun i hi => ?_
  · rw [mix_zero]
    repeat' (first | exact trivial | rfl | refine And.intro ?_ ?_)
  · by_cases hlt : i < x.length
    · obtain ⟨y, hy⟩ : ∃ y, x[i]? = some y := ⟨_, List.getElem?_eq_getElem hlt⟩
      have hr := mix_get hml i (by simp; omega)
      rw [get_rep hlt] at hr
      repeat' ((conv => whnf); first | with_reducible (first | refine Ln.mk (List.length_map ..) ?_ | refine Wr.mk (wrapI (by omega) (by omega)) ?_ | refine Bf.D (fun h => ?_) (fun h => absurd h (by omega)) | refine Ix.nat (get_map hy) ?_ | refine Ix.nat hr ?_ | refine Bf.not ?_ | refine Fin_.mk rfl ?_) | refine Bf.t rfl ?_ | refine Bf.f rfl ?_ | refine Cl.mk (toObj_ok y trivial) ?_ | refine Pu.one rfl rfl hr rfl (Nat.le_refl _) rfl ?_ | refine Nx.mk (i + 1) (by omega) (by omega) ?_)
      repeat' (first | exact trivial | rfl | exact And.intro rfl (And.intro (congrArg (C.s Own.own) (mix_set hml (get_map hy))) trivial) | refine And.intro ?_ ?_)
    · repeat' ((conv => whnf); first | with_reducible (first | refine Ln.mk (List.length_map ..) ?_ | refine Wr.mk (wrapI (by omega) (by omega)) ?_ | refine Bf.D (fun h => absurd h (by omega)) (fun h => ?_) | refine Bf.not ?_ | refine Fin_.mk rfl ?_) | refine Bf.t rfl ?_ | refine Bf.f rfl ?_)
      rw [mix_end _ hml (by simp; omega)]
      rfl
theorem toCache_ok (x : DCache) (hs : DCache.sml x) : CallsA Tryz.prog 67 false [.val (some 1) (DCache.enc .imm x)] .agg (DCache.enc .own x) := by
  have h0 := hs
  refine fnOk (n := 9) (mo := []) (tb := []) Tryz.func67 (by kernel_rfl) rfl (by kernel_rfl) (by rfl) (.inr (DCache.enc_fr x)) ?_
  repeat' ((conv => whnf); first | with_reducible (first | refine Ln.mk (List.length_map ..) ?_ | refine Wr.mk (wrapI (by omega) (by omega)) ?_ | refine Bf.not ?_ | refine Fin_.mk rfl ?_) | refine Bf.t rfl ?_ | refine Bf.f rfl ?_ | refine Cl.mk (toIntSS_ok x.Lists h0) ?_)
  rfl
theorem toCacheS_ok (x : List DCache) (hx : smlDCacheS x) : CallsA Tryz.prog 30 false [.val none (rDCacheS .imm x)] .one (rDCacheS .own x) := by
  refine fnOk (n := 23) (mo := []) (tb := []) Tryz.func30 (by kernel_rfl) rfl (by kernel_rfl) (by rfl) (.inr (rDCacheS_fr x)) ?_
  have hl : x.length ≤ 1048576 := hx.1
  have hml : (x.map (DCache.enc .own)).length = (List.replicate x.length ([.z] : List C)).length := by simp
  repeat' ((conv => whnf); first | with_reducible (first | refine Ln.mk (List.length_map ..) ?_ | refine Wr.mk (wrapI (by omega) (by omega)) ?_ | refine Bf.not ?_ | refine Fin_.mk rfl ?_) | refine Bf.t rfl ?_ | refine Bf.f rfl ?_ | refine Mk.mk _ rfl rfl (by omega) (mkB hl (by decide)) rfl ?_)
  (conv => whnf)
  refine Lp.mk (ι := Nat) (fun i => [(0, .hold .one (rDCacheS .imm x)), (3, .hold .one [.s .own (mixR (x.map (DCache.enc .own)) (List.replicate x.length [.z]) i)]), (4, .hold .one [I (i : Nat)])]) (fun i => i ≤ x.length) (fun i => x.length - i) 0 ?_ (Nat.zero_le _) fun i hi => ?_
  · rw [mix_zero]
    repeat' (first | exact trivial | rfl | refine And.intro ?_ ?_)
  · by_cases hlt : i < x.length
    · obtain ⟨y, hy⟩ : ∃ y, x[i]? = some y := ⟨_, List.getElem?_eq_getElem hlt⟩
      have hr := mix_get hml i (by simp; omega)
      rw [get_rep hlt] at hr
      repeat' ((conv => whnf); first | with_reducible (first | refine Ln.mk (List.length_map ..) ?_ | refine Wr.mk (wrapI (by omega) (by omega)) ?_ | refine Bf.D (fun h => ?_) (fun h => absurd h (by omega)) | refine Ix.nat (get_map hy) ?_ | refine Ix.nat hr ?_ | refine Bf.not ?_ | refine Fin_.mk rfl ?_) | refine Bf.t rfl ?_ | refine Bf.f rfl ?_ | refine Cl.mk (toCache_ok y (hx.2 y (List.mem_of_getElem? hy))) ?_ | refine Pu.one rfl rfl hr rfl (Nat.le_refl _) rfl ?_ | refine Nx.mk (i + 1) (by omega) (by omega) ?_)
      repeat' (first | exact trivial | rfl | exact And.intro rfl (And.intro (congrArg (C.s Own.own) (mix_set hml (get_map hy))) trivial) | refine And.intro ?_ ?_)
    · repeat' ((conv => whnf); first | with_reducible (first | refine Ln.mk (List.length_map ..) ?_ | refine Wr.mk (wrapI (by omega) (by omega)) ?_ | refine Bf.D (fun h => absurd h (by omega)) (fun h => ?_) | refine Bf.not ?_ | refine Fin_.mk rfl ?_) | refine Bf.t rfl ?_ | refine Bf.f rfl ?_)
      rw [mix_end _ hml (by simp; omega)]
      rfl
theorem toPost_ok (x : DPost) (hs : DPost.sml x) : CallsA Tryz.prog 113 false [.val (some 2) (DPost.enc .imm x)] .agg (DPost.enc .own x) := by
  refine fnOk (n := 11) (mo := []) (tb := []) Tryz.func113 (by kernel_rfl) rfl (by kernel_rfl) (by rfl) (.inr (DPost.enc_fr x)) ?_
  repeat' ((conv => whnf); first | with_reducible (first | refine Ln.mk (List.length_map ..) ?_ | refine Wr.mk (wrapI (by omega) (by omega)) ?_ | refine Bf.not ?_ | refine Fin_.mk rfl ?_) | refine Bf.t rfl ?_ | refine Bf.f rfl ?_)
  rfl
theorem toPostS_ok (x : List DPost) (hx : smlDPostS x) : CallsA Tryz.prog 96 false [.val none (rDPostS .imm x)] .one (rDPostS .own x) := by
  refine fnOk (n := 23) (mo := []) (tb := []) Tryz.func96 (by kernel_rfl) rfl (by kernel_rfl) (by rfl) (.inr (rDPostS_fr x)) ?_
  have hl : x.length ≤ 1048576 := hx.1
  have hml : (x.map (DPost.enc .own)).length = (List.replicate x.length ([I 0, I 0] : List C)).length := by simp
  repeat' ((conv => whnf); first | with_reducible (first | refine Ln.mk (List.length_map ..) ?_ | refine Wr.mk (wrapI (by omega) (by omega)) ?_ | refine Bf.not ?_ | refine Fin_.mk rfl ?_) | refine Bf.t rfl ?_ | refine Bf.f rfl ?_ | refine Mk.mk _ rfl rfl (by omega) (mkB hl (by decide)) rfl ?_)
  (conv => whnf)
  refine Lp.mk (ι := Nat) (fun i => [(0, .hold .one (rDPostS .imm x)), (3, .hold .one [.s .own (mixR (x.map (DPost.enc .own)) (List.replicate x.length [I 0, I 0]) i)]), (4, .hold .one [I (i : Nat)])]) (fun i => i ≤ x.length) (fun i => x.length - i) 0 ?_ (Nat.zero_le _) fun i hi => ?_
  · rw [mix_zero]
    repeat' (first | exact trivial | rfl | refine And.intro ?_ ?_)
  · by_cases hlt : i < x.length
    · obtain ⟨y, hy⟩ : ∃ y, x[i]? = some y := ⟨_, List.getElem?_eq_getElem hlt⟩
      have hr := mix_get hml i (by simp; omega)
      rw [get_rep hlt] at hr
      repeat' ((conv => whnf); first | with_reducible (first | refine Ln.mk (List.length_map ..) ?_ | refine Wr.mk (wrapI (by omega) (by omega)) ?_ | refine Bf.D (fun h => ?_) (fun h => absurd h (by omega)) | refine Ix.nat (get_map hy) ?_ | refine Ix.nat hr ?_ | refine Bf.not ?_ | refine Fin_.mk rfl ?_) | refine Bf.t rfl ?_ | refine Bf.f rfl ?_ | refine Cl.mk (toPost_ok y trivial) ?_ | refine Pu.one rfl rfl hr rfl (Nat.le_refl _) rfl ?_ | refine Nx.mk (i + 1) (by omega) (by omega) ?_)
      repeat' (first | exact trivial | rfl | exact And.intro rfl (And.intro (congrArg (C.s Own.own) (mix_set hml (get_map hy))) trivial) | refine And.intro ?_ ?_)
    · repeat' ((conv => whnf); first | with_reducible (first | refine Ln.mk (List.length_map ..) ?_ | refine Wr.mk (wrapI (by omega) (by omega)) ?_ | refine Bf.D (fun h => absurd h (by omega)) (fun h => ?_) | refine Bf.not ?_ | refine Fin_.mk rfl ?_) | refine Bf.t rfl ?_ | refine Bf.f rfl ?_)
      rw [mix_end _ hml (by simp; omega)]
      rfl
theorem toPostSS_ok (x : List (List DPost)) (hx : smlDPostSS x) : CallsA Tryz.prog 68 false [.val none (rDPostSS .imm x)] .one (rDPostSS .own x) := by
  refine fnOk (n := 23) (mo := []) (tb := []) Tryz.func68 (by kernel_rfl) rfl (by kernel_rfl) (by rfl) (.inr (rDPostSS_fr x)) ?_
  have hl : x.length ≤ 1048576 := hx.1
  have hml : (x.map (rDPostS .own)).length = (List.replicate x.length ([.z] : List C)).length := by simp
  repeat' ((conv => whnf); first | with_reducible (first | refine Ln.mk (List.length_map ..) ?_ | refine Wr.mk (wrapI (by omega) (by omega)) ?_ | refine Bf.not ?_ | refine Fin_.mk rfl ?_) | refine Bf.t rfl ?_ | refine Bf.f rfl ?_ | refine Mk.mk _ rfl rfl (by omega) (mkB hl (by decide)) rfl ?_)
  (conv => whnf)
  refine Lp.mk (ι := Nat) (fun i => [(0, .hold .one (rDPostSS .imm x)), (3, .hold .one [.s .own (mixR (x.map (rDPostS .own)) (List.replicate x.length [.z]) i)]), (4, .hold .one [I (i : Nat)])]) (fun i => i ≤ x.length) (fun i => x.length - i) 0 ?_ (Nat.zero_le _) fun i hi => ?_
  · rw [mix_zero]
    repeat' (first | exact trivial | rfl | refine And.intro ?_ ?_)
  · by_cases hlt : i < x.length
    · obtain ⟨y, hy⟩ : ∃ y, x[i]? = some y := ⟨_, List.getElem?_eq_getElem hlt⟩
      have hr := mix_get hml i (by simp; omega)
      rw [get_rep hlt] at hr
      repeat' ((conv => whnf); first | with_reducible (first | refine Ln.mk (List.length_map ..) ?_ | refine Wr.mk (wrapI (by omega) (by omega)) ?_ | refine Bf.D (fun h => ?_) (fun h => absurd h (by omega)) | refine Ix.nat (get_map hy) ?_ | refine Ix.nat hr ?_ | refine Bf.not ?_ | refine Fin_.mk rfl ?_) | refine Bf.t rfl ?_ | refine Bf.f rfl ?_ | refine Cl.mk (toPostS_ok y (hx.2 y (List.mem_of_getElem? hy))) ?_ | refine Pu.one rfl rfl hr rfl (Nat.le_refl _) rfl ?_ | refine Nx.mk (i + 1) (by omega) (by omega) ?_)
      repeat' (first | exact trivial | rfl | exact And.intro rfl (And.intro (congrArg (C.s Own.own) (mix_set hml (get_map hy))) trivial) | refine And.intro ?_ ?_)
    · repeat' ((conv => whnf); first | with_reducible (first | refine Ln.mk (List.length_map ..) ?_ | refine Wr.mk (wrapI (by omega) (by omega)) ?_ | refine Bf.D (fun h => absurd h (by omega)) (fun h => ?_) | refine Bf.not ?_ | refine Fin_.mk rfl ?_) | refine Bf.t rfl ?_ | refine Bf.f rfl ?_)
      rw [mix_end _ hml (by simp; omega)]
      rfl
theorem toMail_ok (x : DMail) (hs : DMail.sml x) : CallsA Tryz.prog 31 false [.val (some 2) (DMail.enc .imm x)] .agg (DMail.enc .own x) := by
  obtain ⟨h0, h1⟩ := hs
  refine fnOk (n := 13) (mo := []) (tb := []) Tryz.func31 (by kernel_rfl) rfl (by kernel_rfl) (by rfl) (.inr (DMail.enc_fr x)) ?_
  repeat' ((conv => whnf); first | with_reducible (first | refine Ln.mk (List.length_map ..) ?_ | refine Wr.mk (wrapI (by omega) (by omega)) ?_ | refine Bf.not ?_ | refine Fin_.mk rfl ?_) | refine Bf.t rfl ?_ | refine Bf.f rfl ?_ | refine Cl.mk (toPostSS_ok x.Buffers h0) ?_ | refine Cl.mk (toIntSS_ok x.Inbox h1) ?_)
  rfl
theorem toStale_ok (x : DStale) (hs : DStale.sml x) : CallsA Tryz.prog 97 false [.val (some 3) (DStale.enc .imm x)] .agg (DStale.enc .own x) := by
  refine fnOk (n := 14) (mo := []) (tb := []) Tryz.func97 (by kernel_rfl) rfl (by kernel_rfl) (by rfl) (.inr (DStale.enc_fr x)) ?_
  repeat' ((conv => whnf); first | with_reducible (first | refine Ln.mk (List.length_map ..) ?_ | refine Wr.mk (wrapI (by omega) (by omega)) ?_ | refine Bf.not ?_ | refine Fin_.mk rfl ?_) | refine Bf.t rfl ?_ | refine Bf.f rfl ?_)
  rfl
theorem toStaleS_ok (x : List DStale) (hx : smlDStaleS x) : CallsA Tryz.prog 70 false [.val none (rDStaleS .imm x)] .one (rDStaleS .own x) := by
  refine fnOk (n := 23) (mo := []) (tb := []) Tryz.func70 (by kernel_rfl) rfl (by kernel_rfl) (by rfl) (.inr (rDStaleS_fr x)) ?_
  have hl : x.length ≤ 1048576 := hx.1
  have hml : (x.map (DStale.enc .own)).length = (List.replicate x.length ([I 0, I 0, I 0] : List C)).length := by simp
  repeat' ((conv => whnf); first | with_reducible (first | refine Ln.mk (List.length_map ..) ?_ | refine Wr.mk (wrapI (by omega) (by omega)) ?_ | refine Bf.not ?_ | refine Fin_.mk rfl ?_) | refine Bf.t rfl ?_ | refine Bf.f rfl ?_ | refine Mk.mk _ rfl rfl (by omega) (mkB hl (by decide)) rfl ?_)
  (conv => whnf)
  refine Lp.mk (ι := Nat) (fun i => [(0, .hold .one (rDStaleS .imm x)), (3, .hold .one [.s .own (mixR (x.map (DStale.enc .own)) (List.replicate x.length [I 0, I 0, I 0]) i)]), (4, .hold .one [I (i : Nat)])]) (fun i => i ≤ x.length) (fun i => x.length - i) 0 ?_ (Nat.zero_le _) fun i hi => ?_
  · rw [mix_zero]
    repeat' (first | exact trivial | rfl | refine And.intro ?_ ?_)
  · by_cases hlt : i < x.length
    · obtain ⟨y, hy⟩ : ∃ y, x[i]? = some y := ⟨_, List.getElem?_eq_getElem hlt⟩
      have hr := mix_get hml i (by simp; omega)
      rw [get_rep hlt] at hr
      repeat' ((conv => whnf); first | with_reducible (first | refine Ln.mk (List.length_map ..) ?_ | refine Wr.mk (wrapI (by omega) (by omega)) ?_ | refine Bf.D (fun h => ?_) (fun h => absurd h (by omega)) | refine Ix.nat (get_map hy) ?_ | refine Ix.nat hr ?_ | refine Bf.not ?_ | refine Fin_.mk rfl ?_) | refine Bf.t rfl ?_ | refine Bf.f rfl ?_ | refine Cl.mk (toStale_ok y trivial) ?_ | refine Pu.one rfl rfl hr rfl (Nat.le_refl _) rfl ?_ | refine Nx.mk (i + 1) (by omega) (by omega) ?_)
      repeat' (first | exact trivial | rfl | exact And.intro rfl (And.intro (congrArg (C.s Own.own) (mix_set hml (get_map hy))) trivial) | refine And.intro ?_ ?_)
    · repeat' ((conv => whnf); first | with_reducible (first | refine Ln.mk (List.length_map ..) ?_ | refine Wr.mk (wrapI (by omega) (by omega)) ?_ | refine Bf.D (fun h => absurd h (by omega)) (fun h => ?_) | refine Bf.not ?_ | refine Fin_.mk rfl ?_) | refine Bf.t rfl ?_ | refine Bf.f rfl ?_)
      rw [mix_end _ hml (by simp; omega)]
      rfl
theorem toQuar_ok (x : DQuar) (hs : DQuar.sml x) : CallsA Tryz.prog 32 false [.val (some 2) (DQuar.enc .imm x)] .agg (DQuar.enc .own x) := by
  have h0 := hs
  refine fnOk (n := 12) (mo := []) (tb := []) Tryz.func32 (by kernel_rfl) rfl (by kernel_rfl) (by rfl) (.inr (DQuar.enc_fr x)) ?_
  repeat' ((conv => whnf); first | with_reducible (first | refine Ln.mk (List.length_map ..) ?_ | refine Wr.mk (wrapI (by omega) (by omega)) ?_ | refine Bf.not ?_ | refine Fin_.mk rfl ?_) | refine Bf.t rfl ?_ | refine Bf.f rfl ?_ | refine Cl.mk (toStaleS_ok x.Lst h0) ?_)
  rfl
theorem toPlan_ok (x : DPlan) (hs : DPlan.sml x) : CallsA Tryz.prog 71 false [.val (some 3) (DPlan.enc .imm x)] .agg (DPlan.enc .own x) := by
  have h0 := hs
  refine fnOk (n := 15) (mo := []) (tb := []) Tryz.func71 (by kernel_rfl) rfl (by kernel_rfl) (by rfl) (.inr (DPlan.enc_fr x)) ?_
  repeat' ((conv => whnf); first | with_reducible (first | refine Ln.mk (List.length_map ..) ?_ | refine Wr.mk (wrapI (by omega) (by omega)) ?_ | refine Bf.not ?_ | refine Fin_.mk rfl ?_) | refine Bf.t rfl ?_ | refine Bf.f rfl ?_ | refine Cl.mk (toIntS_ok x.Cells h0) ?_)
  rfl
theorem toJob_ok (x : DJob) (hs : DJob.sml x) : CallsA Tryz.prog 33 false [.val (some 5) (DJob.enc .imm x)] .agg (DJob.enc .own x) := by
  have h0 := hs
  refine fnOk (n := 15) (mo := []) (tb := []) Tryz.func33 (by kernel_rfl) rfl (by kernel_rfl) (by rfl) (.inr (DJob.enc_fr x)) ?_
  repeat' ((conv => whnf); first | with_reducible (first | refine Ln.mk (List.length_map ..) ?_ | refine Wr.mk (wrapI (by omega) (by omega)) ?_ | refine Bf.not ?_ | refine Fin_.mk rfl ?_) | refine Bf.t rfl ?_ | refine Bf.f rfl ?_ | refine Cl.mk (toPlan_ok x.Plan h0) ?_)
  rfl
theorem toHeap_ok (x : DHeap) (hs : DHeap.sml x) : CallsA Tryz.prog 7 false [.val (some 24) (DHeap.enc .imm x)] .agg (DHeap.enc .own x) := by
  obtain ⟨h0, h1, h2, h3, h4, h5, h6, h7, h8⟩ := hs
  refine fnOk (n := 56) (mo := []) (tb := []) Tryz.func7 (by kernel_rfl) rfl (by kernel_rfl) (by rfl) (.inr (DHeap.enc_fr x)) ?_
  repeat' ((conv => whnf); first | with_reducible (first | refine Ln.mk (List.length_map ..) ?_ | refine Wr.mk (wrapI (by omega) (by omega)) ?_ | refine Bf.not ?_ | refine Fin_.mk rfl ?_) | refine Bf.t rfl ?_ | refine Bf.f rfl ?_ | refine Cl.mk (toKernel_ok x.Kernel h0) ?_ | refine Cl.mk (toRangeS_ok x.Free h1) ?_ | refine Cl.mk (toSpanS_ok x.Spans h2) ?_ | refine Cl.mk (toLargeS_ok x.Larges h3) ?_ | refine Cl.mk (toObjS_ok x.Objs h4) ?_ | refine Cl.mk (toCacheS_ok x.Caches h5) ?_ | refine Cl.mk (toMail_ok x.Mail h6) ?_ | refine Cl.mk (toQuar_ok x.Quar h7) ?_ | refine Cl.mk (toJob_ok x.Job h8) ?_)
  rfl
end Go.Proofs.YthinjmmlpgjhnaaGreat.Ab
