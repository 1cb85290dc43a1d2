/- Contracts of the laws' generic functions (mark). Printed by gen_con.py. No condition. -/
import Derived.Test.YthinjmmlpgjhnaaGreatDat
namespace Go.Proofs.YthinjmmlpgjhnaaGreat.Ab
open Go.RowKit
set_option maxRecDepth 20000
set_option maxHeartbeats 2000000

theorem markIntS_ok (x : List Int) (k : Int) (hs : smlIntS x) (h0 : 0 ≤ k) (h1 : k + (cntIntS x : Nat) ≤ 1099511627776) : CallsM Tryz.prog 12 false [.mut none (rIntS .own x), .val none [I k]] [.mut none (rIntS .own (markIntS x k)), .val none []] .one [I (k + (cntIntS x : Nat))] := by
  have hl : x.length ≤ 1048576 := hs
  unfold cntIntS at h1
  have hml : ((markIntS x k).map (rI .own)).length = (x.map (rI .own)).length := by simp [markIntS_len]
  refine fnMOk (n := 19) (mo := []) (tb := []) [(0, 0), (0, 0)] Tryz.func12 (by kernel_rfl) rfl (by kernel_rfl) (by rfl) (by rfl) (.inr ⟨trivial, trivial⟩) fun u p => ?_
  repeat' ((conv => whnf); first | with_reducible (first | refine Ln.mk (List.length_map ..) ?_ | refine Wr.mk (wrapI (by omega) (by omega)) ?_ | refine Bf.not ?_ | refine Fin_.mk rfl ?_) | refine Bf.t rfl ?_ | refine Bf.f rfl ?_)
  (conv => whnf)
  refine Lp.mk (ι := Nat) (fun i => [(0, .hold .one [.s (.tag (u 0 0)) (mixR ((markIntS x k).map (rI .own)) (x.map (rI .own)) i)]), (1, .hold .one [I (k + (preIntS x i : Nat))]), (5, .hold .one [I (i : Nat)])]) (fun i => i ≤ x.length) (fun i => x.length - i) 0 ?_ (Nat.zero_le _) fun i hi => ?_
  · rw [mix_zero]
    repeat' (first | exact trivial | rfl | exact And.intro rfl (And.intro (congrArg I (by unfold preIntS; omega)) trivial) | refine And.intro ?_ ?_)
  · have hlen := (mix_len hml i).trans (show (x.map (rI .own)).length = x.length by simp)
    by_cases hlt : i < x.length
    · obtain ⟨y, hy⟩ : ∃ y, x[i]? = some y := ⟨_, List.getElem?_eq_getElem hlt⟩
      have hr := mix_get hml i (by simp; omega)
      rw [get_map hy] at hr
      have hm := markIntS_get x k i hlt
      unfold preIntS
      repeat' ((conv => whnf); first | with_reducible (first | refine Ln.mk (List.length_map ..) ?_ | refine Wr.mk (wrapI (by omega) (by omega)) ?_ | refine Bf.D (fun h => ?_) (fun h => absurd h (by omega)) | refine Ln.mk hlen ?_ | refine Ix.nat hr ?_ | refine Bf.not ?_ | refine Fin_.mk rfl ?_) | refine Bf.t rfl ?_ | refine Bf.f rfl ?_ | refine Pu.one rfl rfl hr rfl (Nat.le_refl _) rfl ?_ | refine Cd.mk (by decide) ?_ | refine Ev.mk rfl ?_ | refine Ix.nat (set_get hr) ?_ | refine Nx.mk (i + 1) (by omega) (by omega) ?_)
      repeat' (first | exact trivial | rfl | exact And.intro rfl (And.intro (congrArg (C.s _) (by first | exact mix_set hml (get_map hm) | (simp only [List.set_set]; exact mix_set hml (get_map hm)))) trivial) | exact And.intro rfl (And.intro (congrArg I (by first | omega | (unfold preIntS; omega))) trivial) | refine And.intro ?_ ?_)
    · repeat' ((conv => whnf); first | with_reducible (first | refine Ln.mk (List.length_map ..) ?_ | refine Wr.mk (wrapI (by omega) (by omega)) ?_ | refine Bf.D (fun h => absurd h (by omega)) (fun h => ?_) | refine Ln.mk hlen ?_ | refine Bf.not ?_ | refine Fin_.mk rfl ?_) | refine Bf.t rfl ?_ | refine Bf.f rfl ?_ | refine FinM.mk rfl ?_ ?_)
      · have he : i = x.length := by omega
        subst he
        exact congrArg (fun z => [I z]) (by unfold preIntS cntIntS; rfl)
      · rw [mix_end _ hml (by simp; omega)]
        repeat' (first | exact trivial | exact rfl | refine And.intro ?_ ?_)
theorem markIntSS_ok (x : List (List Int)) (k : Int) (hs : smlIntSS x) (h0 : 0 ≤ k) (h1 : k + (cntIntSS x : Nat) ≤ 1099511627776) : CallsM Tryz.prog 83 false [.mut none (rIntSS .own x), .val none [I k]] [.mut none (rIntSS .own (markIntSS x k)), .val none []] .one [I (k + (cntIntSS x : Nat))] := by
  have hl : x.length ≤ 1048576 := hs.1
  have hml : ((markIntSS x k).map (rIntS .own)).length = (x.map (rIntS .own)).length := by simp [markIntSS_len]
  refine fnMOk (n := 19) (mo := [(12, [1, 0])]) (tb := []) [(0, 0), (0, 0)] Tryz.func83 (by kernel_rfl) rfl (by kernel_rfl) (by rfl) (by rfl) (.inr ⟨trivial, trivial⟩) fun u p => ?_
  repeat' ((conv => whnf); first | with_reducible (first | refine Ln.mk (List.length_map ..) ?_ | refine Wr.mk (wrapI (by omega) (by omega)) ?_ | refine Bf.not ?_ | refine Fin_.mk rfl ?_) | refine Bf.t rfl ?_ | refine Bf.f rfl ?_)
  (conv => whnf)
  refine Lp.mk (ι := Nat) (fun i => [(0, .hold .one [.s (.tag (u 0 0)) (mixR ((markIntSS x k).map (rIntS .own)) (x.map (rIntS .own)) i)]), (1, .hold .one [I (k + (preIntSS x i : Nat))]), (5, .hold .one [I (i : Nat)])]) (fun i => i ≤ x.length) (fun i => x.length - i) 0 ?_ (Nat.zero_le _) fun i hi => ?_
  · rw [mix_zero, preIntSS_zero]
    repeat' (first | exact trivial | rfl | exact And.intro rfl (And.intro (congrArg I (by omega)) trivial) | refine And.intro ?_ ?_)
  · have hlen := (mix_len hml i).trans (show (x.map (rIntS .own)).length = x.length by simp)
    by_cases hlt : i < x.length
    · obtain ⟨y, hy⟩ : ∃ y, x[i]? = some y := ⟨_, List.getElem?_eq_getElem hlt⟩
      have hr := mix_get hml i (by simp; omega)
      rw [get_map hy] at hr
      have hm := markIntSS_get x k i y hy
      have hps := preIntSS_succ x i y hy
      have hpl := preIntSS_le x (i + 1)
      rw [hps] at hpl
      repeat' ((conv => whnf); first | with_reducible (first | refine Ln.mk (List.length_map ..) ?_ | refine Wr.mk (wrapI (by omega) (by omega)) ?_ | refine Bf.D (fun h => ?_) (fun h => absurd h (by omega)) | refine Ln.mk hlen ?_ | refine Ix.nat hr ?_ | refine Bf.not ?_ | refine Fin_.mk rfl ?_) | refine Bf.t rfl ?_ | refine Bf.f rfl ?_ | refine Rw.one rfl hr rfl ?_ | refine Lq.one rfl rfl hr rfl (Nat.le_refl _) rfl rfl ?_ | refine ClM.mk (markIntS_ok y _ (hs.2 y (List.mem_of_getElem? hy)) (by omega) (by omega)) (.inl rfl) ?_ | refine Pu.one rfl rfl (set_get hr) rfl (Nat.le_refl _) rfl ?_ | refine Ix.nat (set_get hr) ?_ | refine Nx.mk (i + 1) (by omega) (by omega) ?_)
      repeat' (first | exact trivial | rfl | exact And.intro rfl (And.intro (congrArg (C.s _) (by first | exact mix_set hml (get_map hm) | (simp only [List.set_set]; exact mix_set hml (get_map hm)))) trivial) | exact And.intro rfl (And.intro (congrArg I (by omega)) trivial) | refine And.intro ?_ ?_)
    · repeat' ((conv => whnf); first | with_reducible (first | refine Ln.mk (List.length_map ..) ?_ | refine Wr.mk (wrapI (by omega) (by omega)) ?_ | refine Bf.D (fun h => absurd h (by omega)) (fun h => ?_) | refine Ln.mk hlen ?_ | refine Bf.not ?_ | refine Fin_.mk rfl ?_) | refine Bf.t rfl ?_ | refine Bf.f rfl ?_ | refine FinM.mk rfl ?_ ?_)
      · have he : i = x.length := by omega
        subst he
        exact congrArg (fun z => [I z]) (by rw [preIntSS_all])
      · rw [mix_end _ hml (by simp; omega)]
        repeat' (first | exact trivial | exact rfl | refine And.intro ?_ ?_)
theorem markBoolS_ok (x : List Bool) (k : Int) (hs : smlBoolS x) (h0 : 0 ≤ k) (h1 : k + (cntBoolS x : Nat) ≤ 1099511627776) : CallsM Tryz.prog 117 false [.mut none (rBoolS .own x), .val none [I k]] [.mut none (rBoolS .own (markBoolS x k)), .val none []] .one [I (k + (cntBoolS x : Nat))] := by
  have hl : x.length ≤ 1048576 := hs
  unfold cntBoolS at h1
  have hml : ((markBoolS x k).map (rB .own)).length = (x.map (rB .own)).length := by simp [markBoolS_len]
  refine fnMOk (n := 21) (mo := []) (tb := []) [(0, 0), (0, 0)] Tryz.func117 (by kernel_rfl) rfl (by kernel_rfl) (by rfl) (by rfl) (.inr ⟨trivial, trivial⟩) fun u p => ?_
  repeat' ((conv => whnf); first | with_reducible (first | refine Ln.mk (List.length_map ..) ?_ | refine Wr.mk (wrapI (by omega) (by omega)) ?_ | refine Bf.not ?_ | refine Fin_.mk rfl ?_) | refine Bf.t rfl ?_ | refine Bf.f rfl ?_)
  (conv => whnf)
  refine Lp.mk (ι := Nat) (fun i => [(0, .hold .one [.s (.tag (u 0 0)) (mixR ((markBoolS x k).map (rB .own)) (x.map (rB .own)) i)]), (1, .hold .one [I (k + (preBoolS x i : Nat))]), (5, .hold .one [I (i : Nat)])]) (fun i => i ≤ x.length) (fun i => x.length - i) 0 ?_ (Nat.zero_le _) fun i hi => ?_
  · rw [mix_zero]
    repeat' (first | exact trivial | rfl | exact And.intro rfl (And.intro (congrArg I (by unfold preBoolS; omega)) trivial) | refine And.intro ?_ ?_)
  · have hlen := (mix_len hml i).trans (show (x.map (rB .own)).length = x.length by simp)
    by_cases hlt : i < x.length
    · obtain ⟨y, hy⟩ : ∃ y, x[i]? = some y := ⟨_, List.getElem?_eq_getElem hlt⟩
      have hr := mix_get hml i (by simp; omega)
      rw [get_map hy] at hr
      have hm := markBoolS_get x k i hlt
      unfold preBoolS
      repeat' ((conv => whnf); first | with_reducible (first | refine Ln.mk (List.length_map ..) ?_ | refine Wr.mk (wrapI (by omega) (by omega)) ?_ | refine Bf.D (fun h => ?_) (fun h => absurd h (by omega)) | refine Ln.mk hlen ?_ | refine Ix.nat hr ?_ | refine Bf.not ?_ | refine Fin_.mk rfl ?_) | refine Bf.t rfl ?_ | refine Bf.f rfl ?_ | refine Pu.one rfl rfl hr rfl (Nat.le_refl _) rfl ?_ | refine Cd.mk (by decide) ?_ | refine Ev.mk rfl ?_ | refine Ix.nat (set_get hr) ?_ | refine Nx.mk (i + 1) (by omega) (by omega) ?_)
      repeat' (first | exact trivial | rfl | exact And.intro rfl (And.intro (congrArg (C.s _) (by first | exact mix_set hml (get_map hm) | (simp only [List.set_set]; exact mix_set hml (get_map hm)))) trivial) | exact And.intro rfl (And.intro (congrArg I (by first | omega | (unfold preBoolS; omega))) trivial) | refine And.intro ?_ ?_)
    · repeat' ((conv => whnf); first | with_reducible (first | refine Ln.mk (List.length_map ..) ?_ | refine Wr.mk (wrapI (by omega) (by omega)) ?_ | refine Bf.D (fun h => absurd h (by omega)) (fun h => ?_) | refine Ln.mk hlen ?_ | refine Bf.not ?_ | refine Fin_.mk rfl ?_) | refine Bf.t rfl ?_ | refine Bf.f rfl ?_ | refine FinM.mk rfl ?_ ?_)
      · have he : i = x.length := by omega
        subst he
        exact congrArg (fun z => [I z]) (by unfold preBoolS cntBoolS; rfl)
      · rw [mix_end _ hml (by simp; omega)]
        repeat' (first | exact trivial | exact rfl | refine And.intro ?_ ?_)
theorem markFrames_ok (x : DFrames) (k : Int) (hs : DFrames.sml x) (h0 : 0 ≤ k) (h1 : k + (DFrames.cnt x : Nat) ≤ 1099511627776) : CallsM Tryz.prog 102 false [.mut (some 2) (DFrames.enc .own x), .val none [I k]] [.mut (some 2) (DFrames.enc .own (x.mark k)), .val none []] .one [I (k + (DFrames.cnt x : Nat))] := by
  obtain ⟨s0, s1⟩ := hs
  unfold DFrames.cnt at h1
  refine fnMOk (n := 14) (mo := [(83, [1, 0]), (117, [1, 0])]) (tb := []) [(2, 0), (0, 0)] Tryz.func102 (by kernel_rfl) rfl (by kernel_rfl) (by rfl) (by rfl) (.inr ⟨trivial, trivial⟩) fun u p => ?_
  repeat' ((conv => whnf); first | with_reducible (first | refine Ln.mk (List.length_map ..) ?_ | refine Wr.mk (wrapI (by omega) (by omega)) ?_ | refine Bf.not ?_ | refine Fin_.mk rfl ?_) | refine Bf.t rfl ?_ | refine Bf.f rfl ?_ | refine ClM.mk (markIntSS_ok x.Cells _ s0 (by omega) (by omega)) (.inl rfl) ?_ | refine ClM.mk (markBoolS_ok x.Used _ s1 (by omega) (by omega)) (.inl rfl) ?_ | refine FinM.mk rfl ?_ ?_)
  · exact congrArg (fun z => [I z]) (by unfold DFrames.cnt; omega)
  · repeat' (first | exact trivial | exact rfl | refine And.intro ?_ ?_)
theorem markEntryS_ok (x : List DEntry) (k : Int) (hs : smlDEntryS x) (h0 : 0 ≤ k) (h1 : k + (cntDEntryS x : Nat) ≤ 1099511627776) : CallsM Tryz.prog 118 false [.mut none (rDEntryS .own x), .val none [I k]] [.mut none (rDEntryS .own (markDEntryS x k)), .val none []] .one [I (k + (cntDEntryS x : Nat))] := by
  have hl : x.length ≤ 1048576 := hs.1
  have hml : ((markDEntryS x k).map (DEntry.enc .own)).length = (x.map (DEntry.enc .own)).length := by simp [markDEntryS_len]
  refine fnMOk (n := 27) (mo := []) (tb := []) [(0, 0), (0, 0)] Tryz.func118 (by kernel_rfl) rfl (by kernel_rfl) (by rfl) (by rfl) (.inr ⟨trivial, trivial⟩) fun u p => ?_
  repeat' ((conv => whnf); first | with_reducible (first | refine Ln.mk (List.length_map ..) ?_ | refine Wr.mk (wrapI (by omega) (by omega)) ?_ | refine Bf.not ?_ | refine Fin_.mk rfl ?_) | refine Bf.t rfl ?_ | refine Bf.f rfl ?_)
  (conv => whnf)
  refine Lp.mk (ι := Nat) (fun i => [(0, .hold .one [.s (.tag (u 0 0)) (mixR ((markDEntryS x k).map (DEntry.enc .own)) (x.map (DEntry.enc .own)) i)]), (1, .hold .one [I (k + (preDEntryS x i : Nat))]), (5, .hold .one [I (i : Nat)])]) (fun i => i ≤ x.length) (fun i => x.length - i) 0 ?_ (Nat.zero_le _) fun i hi => ?_
  · rw [mix_zero, preDEntryS_zero]
    repeat' (first | exact trivial | rfl | exact And.intro rfl (And.intro (congrArg I (by omega)) trivial) | refine And.intro ?_ ?_)
  · have hlen := (mix_len hml i).trans (show (x.map (DEntry.enc .own)).length = x.length by simp)
    by_cases hlt : i < x.length
    · obtain ⟨y, hy⟩ : ∃ y, x[i]? = some y := ⟨_, List.getElem?_eq_getElem hlt⟩
      have hr := mix_get hml i (by simp; omega)
      rw [get_map hy] at hr
      have hm := markDEntryS_get x k i y hy
      have hps := preDEntryS_succ x i y hy
      have hpl := preDEntryS_le x (i + 1)
      rw [hps] at hpl
      simp only [DEntry.cnt] at hps hpl
      repeat' ((conv => whnf); first | with_reducible (first | refine Ln.mk (List.length_map ..) ?_ | refine Wr.mk (wrapI (by omega) (by omega)) ?_ | refine Bf.D (fun h => ?_) (fun h => absurd h (by omega)) | refine Ln.mk hlen ?_ | refine Ix.nat hr ?_ | refine Bf.not ?_ | refine Fin_.mk rfl ?_) | refine Bf.t rfl ?_ | refine Bf.f rfl ?_ | refine Pu.one rfl rfl hr rfl (Nat.le_of_ble_eq_true rfl) rfl ?_ | refine Pu.one rfl rfl (set_get hr) rfl (Nat.le_of_ble_eq_true rfl) rfl ?_ | refine Ix.nat (set_get hr) ?_ | refine Nx.mk (i + 1) (by omega) (by omega) ?_)
      repeat' (first | exact trivial | rfl | exact And.intro rfl (And.intro (congrArg (C.s _) (by first | exact mix_set hml (get_map hm) | (simp only [List.set_set]; exact mix_set hml (get_map hm)))) trivial) | exact And.intro rfl (And.intro (congrArg I (by first | omega | (simp only [DEntry.cnt] at hps; omega))) trivial) | refine And.intro ?_ ?_)
    · repeat' ((conv => whnf); first | with_reducible (first | refine Ln.mk (List.length_map ..) ?_ | refine Wr.mk (wrapI (by omega) (by omega)) ?_ | refine Bf.D (fun h => absurd h (by omega)) (fun h => ?_) | refine Ln.mk hlen ?_ | refine Bf.not ?_ | refine Fin_.mk rfl ?_) | refine Bf.t rfl ?_ | refine Bf.f rfl ?_ | refine FinM.mk rfl ?_ ?_)
      · have he : i = x.length := by omega
        subst he
        exact congrArg (fun z => [I z]) (by rw [preDEntryS_all])
      · rw [mix_end _ hml (by simp; omega)]
        repeat' (first | exact trivial | exact rfl | refine And.intro ?_ ?_)
theorem markTable_ok (x : DTable) (k : Int) (hs : DTable.sml x) (h0 : 0 ≤ k) (h1 : k + (DTable.cnt x : Nat) ≤ 1099511627776) : CallsM Tryz.prog 103 false [.mut (some 1) (DTable.enc .own x), .val none [I k]] [.mut (some 1) (DTable.enc .own (x.mark k)), .val none []] .one [I (k + (DTable.cnt x : Nat))] := by
  have s0 := hs
  unfold DTable.cnt at h1
  refine fnMOk (n := 10) (mo := [(118, [1, 0])]) (tb := []) [(2, 0), (0, 0)] Tryz.func103 (by kernel_rfl) rfl (by kernel_rfl) (by rfl) (by rfl) (.inr ⟨trivial, trivial⟩) fun u p => ?_
  repeat' ((conv => whnf); first | with_reducible (first | refine Ln.mk (List.length_map ..) ?_ | refine Wr.mk (wrapI (by omega) (by omega)) ?_ | refine Bf.not ?_ | refine Fin_.mk rfl ?_) | refine Bf.t rfl ?_ | refine Bf.f rfl ?_ | refine ClM.mk (markEntryS_ok x.Entries _ s0 (by omega) (by omega)) (.inl rfl) ?_ | refine FinM.mk rfl ?_ ?_)
  · exact congrArg (fun z => [I z]) (by unfold DTable.cnt; omega)
  · repeat' (first | exact trivial | exact rfl | refine And.intro ?_ ?_)
theorem markMachine_ok (x : DMachine) (k : Int) (hs : DMachine.sml x) (h0 : 0 ≤ k) (h1 : k + (DMachine.cnt x : Nat) ≤ 1099511627776) : CallsM Tryz.prog 82 false [.mut (some 3) (DMachine.enc .own x), .val none [I k]] [.mut (some 3) (DMachine.enc .own (x.mark k)), .val none []] .one [I (k + (DMachine.cnt x : Nat))] := by
  obtain ⟨s0, s1⟩ := hs
  unfold DMachine.cnt at h1
  refine fnMOk (n := 14) (mo := [(102, [1, 0]), (103, [1, 0])]) (tb := []) [(2, 0), (0, 0)] Tryz.func82 (by kernel_rfl) rfl (by kernel_rfl) (by rfl) (by rfl) (.inr ⟨trivial, trivial⟩) fun u p => ?_
  repeat' ((conv => whnf); first | with_reducible (first | refine Ln.mk (List.length_map ..) ?_ | refine Wr.mk (wrapI (by omega) (by omega)) ?_ | refine Bf.not ?_ | refine Fin_.mk rfl ?_) | refine Bf.t rfl ?_ | refine Bf.f rfl ?_ | refine ClM.mk (markFrames_ok x.Frames _ s0 (by omega) (by omega)) (.inl rfl) ?_ | refine ClM.mk (markTable_ok x.Table _ s1 (by omega) (by omega)) (.inl rfl) ?_ | refine FinM.mk rfl ?_ ?_)
  · exact congrArg (fun z => [I z]) (by unfold DMachine.cnt; omega)
  · repeat' (first | exact trivial | exact rfl | refine And.intro ?_ ?_)
theorem markKernel_ok (x : DKernel) (k : Int) (hs : DKernel.sml x) (h0 : 0 ≤ k) (h1 : k + (DKernel.cnt x : Nat) ≤ 1099511627776) : CallsM Tryz.prog 43 false [.mut (some 5) (DKernel.enc .own x), .val none [I k]] [.mut (some 5) (DKernel.enc .own (x.mark k)), .val none []] .one [I (k + (DKernel.cnt x : Nat))] := by
  obtain ⟨s0, s1⟩ := hs
  unfold DKernel.cnt at h1
  refine fnMOk (n := 14) (mo := [(82, [1, 0]), (12, [1, 0])]) (tb := []) [(2, 0), (0, 0)] Tryz.func43 (by kernel_rfl) rfl (by kernel_rfl) (by rfl) (by rfl) (.inr ⟨trivial, trivial⟩) fun u p => ?_
  repeat' ((conv => whnf); first | with_reducible (first | refine Ln.mk (List.length_map ..) ?_ | refine Wr.mk (wrapI (by omega) (by omega)) ?_ | refine Bf.not ?_ | refine Fin_.mk rfl ?_) | refine Bf.t rfl ?_ | refine Bf.f rfl ?_ | refine ClM.mk (markMachine_ok x.Machine _ s0 (by omega) (by omega)) (.inl rfl) ?_ | refine ClM.mk (markIntS_ok x.Refuse _ s1 (by omega) (by omega)) (.inl rfl) ?_ | refine FinM.mk rfl ?_ ?_)
  · exact congrArg (fun z => [I z]) (by unfold DKernel.cnt; omega)
  · repeat' (first | exact trivial | exact rfl | refine And.intro ?_ ?_)
theorem markRangeS_ok (x : List DRange) (k : Int) (hs : smlDRangeS x) (h0 : 0 ≤ k) (h1 : k + (cntDRangeS x : Nat) ≤ 1099511627776) : CallsM Tryz.prog 44 false [.mut none (rDRangeS .own x), .val none [I k]] [.mut none (rDRangeS .own (markDRangeS x k)), .val none []] .one [I (k + (cntDRangeS x : Nat))] := by
  have hl : x.length ≤ 1048576 := hs.1
  have hml : ((markDRangeS x k).map (DRange.enc .own)).length = (x.map (DRange.enc .own)).length := by simp [markDRangeS_len]
  refine fnMOk (n := 27) (mo := []) (tb := []) [(0, 0), (0, 0)] Tryz.func44 (by kernel_rfl) rfl (by kernel_rfl) (by rfl) (by rfl) (.inr ⟨trivial, trivial⟩) fun u p => ?_
  repeat' ((conv => whnf); first | with_reducible (first | refine Ln.mk (List.length_map ..) ?_ | refine Wr.mk (wrapI (by omega) (by omega)) ?_ | refine Bf.not ?_ | refine Fin_.mk rfl ?_) | refine Bf.t rfl ?_ | refine Bf.f rfl ?_)
  (conv => whnf)
  refine Lp.mk (ι := Nat) (fun i => [(0, .hold .one [.s (.tag (u 0 0)) (mixR ((markDRangeS x k).map (DRange.enc .own)) (x.map (DRange.enc .own)) i)]), (1, .hold .one [I (k + (preDRangeS x i : Nat))]), (5, .hold .one [I (i : Nat)])]) (fun i => i ≤ x.length) (fun i => x.length - i) 0 ?_ (Nat.zero_le _) fun i hi => ?_
  · rw [mix_zero, preDRangeS_zero]
    repeat' (first | exact trivial | rfl | exact And.intro rfl (And.intro (congrArg I (by omega)) trivial) | refine And.intro ?_ ?_)
  · have hlen := (mix_len hml i).trans (show (x.map (DRange.enc .own)).length = x.length by simp)
    by_cases hlt : i < x.length
    · obtain ⟨y, hy⟩ : ∃ y, x[i]? = some y := ⟨_, List.getElem?_eq_getElem hlt⟩
      have hr := mix_get hml i (by simp; omega)
      rw [get_map hy] at hr
      have hm := markDRangeS_get x k i y hy
      have hps := preDRangeS_succ x i y hy
      have hpl := preDRangeS_le x (i + 1)
      rw [hps] at hpl
      simp only [DRange.cnt] at hps hpl
      repeat' ((conv => whnf); first | with_reducible (first | refine Ln.mk (List.length_map ..) ?_ | refine Wr.mk (wrapI (by omega) (by omega)) ?_ | refine Bf.D (fun h => ?_) (fun h => absurd h (by omega)) | refine Ln.mk hlen ?_ | refine Ix.nat hr ?_ | refine Bf.not ?_ | refine Fin_.mk rfl ?_) | refine Bf.t rfl ?_ | refine Bf.f rfl ?_ | refine Pu.one rfl rfl hr rfl (Nat.le_of_ble_eq_true rfl) rfl ?_ | refine Pu.one rfl rfl (set_get hr) rfl (Nat.le_of_ble_eq_true rfl) rfl ?_ | refine Ix.nat (set_get hr) ?_ | refine Nx.mk (i + 1) (by omega) (by omega) ?_)
      repeat' (first | exact trivial | rfl | exact And.intro rfl (And.intro (congrArg (C.s _) (by first | exact mix_set hml (get_map hm) | (simp only [List.set_set]; exact mix_set hml (get_map hm)))) trivial) | exact And.intro rfl (And.intro (congrArg I (by first | omega | (simp only [DRange.cnt] at hps; omega))) trivial) | refine And.intro ?_ ?_)
    · repeat' ((conv => whnf); first | with_reducible (first | refine Ln.mk (List.length_map ..) ?_ | refine Wr.mk (wrapI (by omega) (by omega)) ?_ | refine Bf.D (fun h => absurd h (by omega)) (fun h => ?_) | refine Ln.mk hlen ?_ | refine Bf.not ?_ | refine Fin_.mk rfl ?_) | refine Bf.t rfl ?_ | refine Bf.f rfl ?_ | refine FinM.mk rfl ?_ ?_)
      · have he : i = x.length := by omega
        subst he
        exact congrArg (fun z => [I z]) (by rw [preDRangeS_all])
      · rw [mix_end _ hml (by simp; omega)]
        repeat' (first | exact trivial | exact rfl | refine And.intro ?_ ?_)
theorem markSpanS_ok (x : List DSpan) (k : Int) (hs : smlDSpanS x) (h0 : 0 ≤ k) (h1 : k + (cntDSpanS x : Nat) ≤ 1099511627776) : CallsM Tryz.prog 45 false [.mut none (rDSpanS .own x), .val none [I k]] [.mut none (rDSpanS .own (markDSpanS x k)), .val none []] .one [I (k + (cntDSpanS x : Nat))] := by
  have hl : x.length ≤ 1048576 := hs.1
  have hml : ((markDSpanS x k).map (DSpan.enc .own)).length = (x.map (DSpan.enc .own)).length := by simp [markDSpanS_len]
  refine fnMOk (n := 34) (mo := []) (tb := []) [(0, 0), (0, 0)] Tryz.func45 (by kernel_rfl) rfl (by kernel_rfl) (by rfl) (by rfl) (.inr ⟨trivial, trivial⟩) fun u p => ?_
  repeat' ((conv => whnf); first | with_reducible (first | refine Ln.mk (List.length_map ..) ?_ | refine Wr.mk (wrapI (by omega) (by omega)) ?_ | refine Bf.not ?_ | refine Fin_.mk rfl ?_) | refine Bf.t rfl ?_ | refine Bf.f rfl ?_)
  (conv => whnf)
  refine Lp.mk (ι := Nat) (fun i => [(0, .hold .one [.s (.tag (u 0 0)) (mixR ((markDSpanS x k).map (DSpan.enc .own)) (x.map (DSpan.enc .own)) i)]), (1, .hold .one [I (k + (preDSpanS x i : Nat))]), (5, .hold .one [I (i : Nat)])]) (fun i => i ≤ x.length) (fun i => x.length - i) 0 ?_ (Nat.zero_le _) fun i hi => ?_
  · rw [mix_zero, preDSpanS_zero]
    repeat' (first | exact trivial | rfl | exact And.intro rfl (And.intro (congrArg I (by omega)) trivial) | refine And.intro ?_ ?_)
  · have hlen := (mix_len hml i).trans (show (x.map (DSpan.enc .own)).length = x.length by simp)
    by_cases hlt : i < x.length
    · obtain ⟨y, hy⟩ : ∃ y, x[i]? = some y := ⟨_, List.getElem?_eq_getElem hlt⟩
      have hr := mix_get hml i (by simp; omega)
      rw [get_map hy] at hr
      have hm := markDSpanS_get x k i y hy
      have hps := preDSpanS_succ x i y hy
      have hpl := preDSpanS_le x (i + 1)
      rw [hps] at hpl
      simp only [DSpan.cnt] at hps hpl
      repeat' ((conv => whnf); first | with_reducible (first | refine Ln.mk (List.length_map ..) ?_ | refine Wr.mk (wrapI (by omega) (by omega)) ?_ | refine Bf.D (fun h => ?_) (fun h => absurd h (by omega)) | refine Ln.mk hlen ?_ | refine Ix.nat hr ?_ | refine Bf.not ?_ | refine Fin_.mk rfl ?_) | refine Bf.t rfl ?_ | refine Bf.f rfl ?_ | refine Pu.one rfl rfl hr rfl (Nat.le_of_ble_eq_true rfl) rfl ?_ | refine Pu.one rfl rfl (set_get hr) rfl (Nat.le_of_ble_eq_true rfl) rfl ?_ | refine Pu.one rfl rfl (set_get (set_get hr)) rfl (Nat.le_of_ble_eq_true rfl) rfl ?_ | refine Ix.nat (set_get hr) ?_ | refine Ix.nat (set_get (set_get hr)) ?_ | refine Nx.mk (i + 1) (by omega) (by omega) ?_)
      repeat' (first | exact trivial | rfl | exact And.intro rfl (And.intro (congrArg (C.s _) (by first | exact mix_set hml (get_map hm) | (simp only [List.set_set]; exact mix_set hml (get_map hm)))) trivial) | exact And.intro rfl (And.intro (congrArg I (by first | omega | (simp only [DSpan.cnt] at hps; omega))) trivial) | refine And.intro ?_ ?_)
    · repeat' ((conv => whnf); first | with_reducible (first | refine Ln.mk (List.length_map ..) ?_ | refine Wr.mk (wrapI (by omega) (by omega)) ?_ | refine Bf.D (fun h => absurd h (by omega)) (fun h => ?_) | refine Ln.mk hlen ?_ | refine Bf.not ?_ | refine Fin_.mk rfl ?_) | refine Bf.t rfl ?_ | refine Bf.f rfl ?_ | refine FinM.mk rfl ?_ ?_)
      · have he : i = x.length := by omega
        subst he
        exact congrArg (fun z => [I z]) (by rw [preDSpanS_all])
      · rw [mix_end _ hml (by simp; omega)]
        repeat' (first | exact trivial | exact rfl | refine And.intro ?_ ?_)
theorem markLargeS_ok (x : List DLarge) (k : Int) (hs : smlDLargeS x) (h0 : 0 ≤ k) (h1 : k + (cntDLargeS x : Nat) ≤ 1099511627776) : CallsM Tryz.prog 46 false [.mut none (rDLargeS .own x), .val none [I k]] [.mut none (rDLargeS .own (markDLargeS x k)), .val none []] .one [I (k + (cntDLargeS x : Nat))] := by
  have hl : x.length ≤ 1048576 := hs.1
  have hml : ((markDLargeS x k).map (DLarge.enc .own)).length = (x.map (DLarge.enc .own)).length := by simp [markDLargeS_len]
  refine fnMOk (n := 34) (mo := []) (tb := []) [(0, 0), (0, 0)] Tryz.func46 (by kernel_rfl) rfl (by kernel_rfl) (by rfl) (by rfl) (.inr ⟨trivial, trivial⟩) fun u p => ?_
  repeat' ((conv => whnf); first | with_reducible (first | refine Ln.mk (List.length_map ..) ?_ | refine Wr.mk (wrapI (by omega) (by omega)) ?_ | refine Bf.not ?_ | refine Fin_.mk rfl ?_) | refine Bf.t rfl ?_ | refine Bf.f rfl ?_)
  (conv => whnf)
  refine Lp.mk (ι := Nat) (fun i => [(0, .hold .one [.s (.tag (u 0 0)) (mixR ((markDLargeS x k).map (DLarge.enc .own)) (x.map (DLarge.enc .own)) i)]), (1, .hold .one [I (k + (preDLargeS x i : Nat))]), (5, .hold .one [I (i : Nat)])]) (fun i => i ≤ x.length) (fun i => x.length - i) 0 ?_ (Nat.zero_le _) fun i hi => ?_
  · rw [mix_zero, preDLargeS_zero]
    repeat' (first | exact trivial | rfl | exact And.intro rfl (And.intro (congrArg I (by omega)) trivial) | refine And.intro ?_ ?_)
  · have hlen := (mix_len hml i).trans (show (x.map (DLarge.enc .own)).length = x.length by simp)
    by_cases hlt : i < x.length
    · obtain ⟨y, hy⟩ : ∃ y, x[i]? = some y := ⟨_, List.getElem?_eq_getElem hlt⟩
      have hr := mix_get hml i (by simp; omega)
      rw [get_map hy] at hr
      have hm := markDLargeS_get x k i y hy
      have hps := preDLargeS_succ x i y hy
      have hpl := preDLargeS_le x (i + 1)
      rw [hps] at hpl
      simp only [DLarge.cnt] at hps hpl
      repeat' ((conv => whnf); first | with_reducible (first | refine Ln.mk (List.length_map ..) ?_ | refine Wr.mk (wrapI (by omega) (by omega)) ?_ | refine Bf.D (fun h => ?_) (fun h => absurd h (by omega)) | refine Ln.mk hlen ?_ | refine Ix.nat hr ?_ | refine Bf.not ?_ | refine Fin_.mk rfl ?_) | refine Bf.t rfl ?_ | refine Bf.f rfl ?_ | refine Pu.one rfl rfl hr rfl (Nat.le_of_ble_eq_true rfl) rfl ?_ | refine Pu.one rfl rfl (set_get hr) rfl (Nat.le_of_ble_eq_true rfl) rfl ?_ | refine Pu.one rfl rfl (set_get (set_get hr)) rfl (Nat.le_of_ble_eq_true rfl) rfl ?_ | refine Ix.nat (set_get hr) ?_ | refine Ix.nat (set_get (set_get hr)) ?_ | refine Nx.mk (i + 1) (by omega) (by omega) ?_)
      repeat' (first | exact trivial | rfl | exact And.intro rfl (And.intro (congrArg (C.s _) (by first | exact mix_set hml (get_map hm) | (simp only [List.set_set]; exact mix_set hml (get_map hm)))) trivial) | exact And.intro rfl (And.intro (congrArg I (by first | omega | (simp only [DLarge.cnt] at hps; omega))) trivial) | refine And.intro ?_ ?_)
    · repeat' ((conv => whnf); first | with_reducible (first | refine Ln.mk (List.length_map ..) ?_ | refine Wr.mk (wrapI (by omega) (by omega)) ?_ | refine Bf.D (fun h => absurd h (by omega)) (fun h => ?_) | refine Ln.mk hlen ?_ | refine Bf.not ?_ | refine Fin_.mk rfl ?_) | refine Bf.t rfl ?_ | refine Bf.f rfl ?_ | refine FinM.mk rfl ?_ ?_)
      · have he : i = x.length := by omega
        subst he
        exact congrArg (fun z => [I z]) (by rw [preDLargeS_all])
      · rw [mix_end _ hml (by simp; omega)]
        repeat' (first | exact trivial | exact rfl | refine And.intro ?_ ?_)
theorem markObjS_ok (x : List DObj) (k : Int) (hs : smlDObjS x) (h0 : 0 ≤ k) (h1 : k + (cntDObjS x : Nat) ≤ 1099511627776) : CallsM Tryz.prog 47 false [.mut none (rDObjS .own x), .val none [I k]] [.mut none (rDObjS .own (markDObjS x k)), .val none []] .one [I (k + (cntDObjS x : Nat))] := by
  have hl : x.length ≤ 1048576 := hs.1
  have hml : ((markDObjS x k).map (DObj.enc .own)).length = (x.map (DObj.enc .own)).length := by simp [markDObjS_len]
  refine fnMOk (n := 41) (mo := []) (tb := []) [(0, 0), (0, 0)] Tryz.func47 (by kernel_rfl) rfl (by kernel_rfl) (by rfl) (by rfl) (.inr ⟨trivial, trivial⟩) fun u p => ?_
  repeat' ((conv => whnf); first | with_reducible (first | refine Ln.mk (List.length_map ..) ?_ | refine Wr.mk (wrapI (by omega) (by omega)) ?_ | refine Bf.not ?_ | refine Fin_.mk rfl ?_) | refine Bf.t rfl ?_ | refine Bf.f rfl ?_)
  (conv => whnf)
  refine Lp.mk (ι := Nat) (fun i => [(0, .hold .one [.s (.tag (u 0 0)) (mixR ((markDObjS x k).map (DObj.enc .own)) (x.map (DObj.enc .own)) i)]), (1, .hold .one [I (k + (preDObjS x i : Nat))]), (5, .hold .one [I (i : Nat)])]) (fun i => i ≤ x.length) (fun i => x.length - i) 0 ?_ (Nat.zero_le _) fun i hi => ?_
  · rw [mix_zero, preDObjS_zero]
    repeat' (first | exact trivial | rfl | exact And.intro rfl (And.intro (congrArg I (by omega)) trivial) | refine And.intro ?_ ?_)
  · have hlen := (mix_len hml i).trans (show (x.map (DObj.enc .own)).length = x.length by simp)
    by_cases hlt : i < x.length
    · obtain ⟨y, hy⟩ : ∃ y, x[i]? = some y := ⟨_, List.getElem?_eq_getElem hlt⟩
      have hr := mix_get hml i (by simp; omega)
      rw [get_map hy] at hr
      have hm := markDObjS_get x k i y hy
      have hps := preDObjS_succ x i y hy
      have hpl := preDObjS_le x (i + 1)
      rw [hps] at hpl
      simp only [DObj.cnt] at hps hpl
      repeat' ((conv => whnf); first | with_reducible (first | refine Ln.mk (List.length_map ..) ?_ | refine Wr.mk (wrapI (by omega) (by omega)) ?_ | refine Bf.D (fun h => ?_) (fun h => absurd h (by omega)) | refine Ln.mk hlen ?_ | refine Ix.nat hr ?_ | refine Bf.not ?_ | refine Fin_.mk rfl ?_) | refine Bf.t rfl ?_ | refine Bf.f rfl ?_ | refine Pu.one rfl rfl hr rfl (Nat.le_of_ble_eq_true rfl) rfl ?_ | refine Pu.one rfl rfl (set_get hr) rfl (Nat.le_of_ble_eq_true rfl) rfl ?_ | refine Pu.one rfl rfl (set_get (set_get hr)) rfl (Nat.le_of_ble_eq_true rfl) rfl ?_ | refine Pu.one rfl rfl (set_get (set_get (set_get hr))) rfl (Nat.le_of_ble_eq_true rfl) rfl ?_ | refine Ix.nat (set_get hr) ?_ | refine Ix.nat (set_get (set_get hr)) ?_ | refine Ix.nat (set_get (set_get (set_get hr))) ?_ | refine Nx.mk (i + 1) (by omega) (by omega) ?_)
      repeat' (first | exact trivial | rfl | exact And.intro rfl (And.intro (congrArg (C.s _) (by first | exact mix_set hml (get_map hm) | (simp only [List.set_set]; exact mix_set hml (get_map hm)))) trivial) | exact And.intro rfl (And.intro (congrArg I (by first | omega | (simp only [DObj.cnt] at hps; omega))) trivial) | refine And.intro ?_ ?_)
    · repeat' ((conv => whnf); first | with_reducible (first | refine Ln.mk (List.length_map ..) ?_ | refine Wr.mk (wrapI (by omega) (by omega)) ?_ | refine Bf.D (fun h => absurd h (by omega)) (fun h => ?_) | refine Ln.mk hlen ?_ | refine Bf.not ?_ | refine Fin_.mk rfl ?_) | refine Bf.t rfl ?_ | refine Bf.f rfl ?_ | refine FinM.mk rfl ?_ ?_)
      · have he : i = x.length := by omega
        subst he
        exact congrArg (fun z => [I z]) (by rw [preDObjS_all])
      · rw [mix_end _ hml (by simp; omega)]
        repeat' (first | exact trivial | exact rfl | refine And.intro ?_ ?_)
theorem markCacheS_ok (x : List DCache) (k : Int) (hs : smlDCacheS x) (h0 : 0 ≤ k) (h1 : k + (cntDCacheS x : Nat) ≤ 1099511627776) : CallsM Tryz.prog 48 false [.mut none (rDCacheS .own x), .val none [I k]] [.mut none (rDCacheS .own (markDCacheS x k)), .val none []] .one [I (k + (cntDCacheS x : Nat))] := by
  have hl : x.length ≤ 1048576 := hs.1
  have hml : ((markDCacheS x k).map (DCache.enc .own)).length = (x.map (DCache.enc .own)).length := by simp [markDCacheS_len]
  refine fnMOk (n := 20) (mo := [(83, [1, 0])]) (tb := []) [(0, 0), (0, 0)] Tryz.func48 (by kernel_rfl) rfl (by kernel_rfl) (by rfl) (by rfl) (.inr ⟨trivial, trivial⟩) fun u p => ?_
  repeat' ((conv => whnf); first | with_reducible (first | refine Ln.mk (List.length_map ..) ?_ | refine Wr.mk (wrapI (by omega) (by omega)) ?_ | refine Bf.not ?_ | refine Fin_.mk rfl ?_) | refine Bf.t rfl ?_ | refine Bf.f rfl ?_)
  (conv => whnf)
  refine Lp.mk (ι := Nat) (fun i => [(0, .hold .one [.s (.tag (u 0 0)) (mixR ((markDCacheS x k).map (DCache.enc .own)) (x.map (DCache.enc .own)) i)]), (1, .hold .one [I (k + (preDCacheS x i : Nat))]), (5, .hold .one [I (i : Nat)])]) (fun i => i ≤ x.length) (fun i => x.length - i) 0 ?_ (Nat.zero_le _) fun i hi => ?_
  · rw [mix_zero, preDCacheS_zero]
    repeat' (first | exact trivial | rfl | exact And.intro rfl (And.intro (congrArg I (by omega)) trivial) | refine And.intro ?_ ?_)
  · have hlen := (mix_len hml i).trans (show (x.map (DCache.enc .own)).length = x.length by simp)
    by_cases hlt : i < x.length
    · obtain ⟨y, hy⟩ : ∃ y, x[i]? = some y := ⟨_, List.getElem?_eq_getElem hlt⟩
      have hr := mix_get hml i (by simp; omega)
      rw [get_map hy] at hr
      have hm := markDCacheS_get x k i y hy
      have hps := preDCacheS_succ x i y hy
      have hpl := preDCacheS_le x (i + 1)
      rw [hps] at hpl
      repeat' ((conv => whnf); first | with_reducible (first | refine Ln.mk (List.length_map ..) ?_ | refine Wr.mk (wrapI (by omega) (by omega)) ?_ | refine Bf.D (fun h => ?_) (fun h => absurd h (by omega)) | refine Ln.mk hlen ?_ | refine Ix.nat hr ?_ | refine Bf.not ?_ | refine Fin_.mk rfl ?_) | refine Bf.t rfl ?_ | refine Bf.f rfl ?_ | refine Rw.one rfl hr rfl ?_ | refine Lq.one rfl rfl hr rfl (Nat.le_refl _) rfl rfl ?_ | refine ClM.mk (markIntSS_ok y.Lists _ (hs.2 y (List.mem_of_getElem? hy)) (by omega) (by simp only [DCache.cnt] at hpl; omega)) (.inl rfl) ?_ | refine Pu.one rfl rfl (set_get hr) rfl (Nat.le_refl _) rfl ?_ | refine Ix.nat (set_get hr) ?_ | refine Nx.mk (i + 1) (by omega) (by omega) ?_)
      repeat' (first | exact trivial | rfl | exact And.intro rfl (And.intro (congrArg (C.s _) (by first | exact mix_set hml (get_map hm) | (simp only [List.set_set]; exact mix_set hml (get_map hm)))) trivial) | exact And.intro rfl (And.intro (congrArg I (by first | omega | (simp only [DCache.cnt] at hps; omega))) trivial) | refine And.intro ?_ ?_)
    · repeat' ((conv => whnf); first | with_reducible (first | refine Ln.mk (List.length_map ..) ?_ | refine Wr.mk (wrapI (by omega) (by omega)) ?_ | refine Bf.D (fun h => absurd h (by omega)) (fun h => ?_) | refine Ln.mk hlen ?_ | refine Bf.not ?_ | refine Fin_.mk rfl ?_) | refine Bf.t rfl ?_ | refine Bf.f rfl ?_ | refine FinM.mk rfl ?_ ?_)
      · have he : i = x.length := by omega
        subst he
        exact congrArg (fun z => [I z]) (by rw [preDCacheS_all])
      · rw [mix_end _ hml (by simp; omega)]
        repeat' (first | exact trivial | exact rfl | refine And.intro ?_ ?_)
theorem markPostS_ok (x : List DPost) (k : Int) (hs : smlDPostS x) (h0 : 0 ≤ k) (h1 : k + (cntDPostS x : Nat) ≤ 1099511627776) : CallsM Tryz.prog 104 false [.mut none (rDPostS .own x), .val none [I k]] [.mut none (rDPostS .own (markDPostS x k)), .val none []] .one [I (k + (cntDPostS x : Nat))] := by
  have hl : x.length ≤ 1048576 := hs.1
  have hml : ((markDPostS x k).map (DPost.enc .own)).length = (x.map (DPost.enc .own)).length := by simp [markDPostS_len]
  refine fnMOk (n := 27) (mo := []) (tb := []) [(0, 0), (0, 0)] Tryz.func104 (by kernel_rfl) rfl (by kernel_rfl) (by rfl) (by rfl) (.inr ⟨trivial, trivial⟩) fun u p => ?_
  repeat' ((conv => whnf); first | with_reducible (first | refine Ln.mk (List.length_map ..) ?_ | refine Wr.mk (wrapI (by omega) (by omega)) ?_ | refine Bf.not ?_ | refine Fin_.mk rfl ?_) | refine Bf.t rfl ?_ | refine Bf.f rfl ?_)
  (conv => whnf)
  refine Lp.mk (ι := Nat) (fun i => [(0, .hold .one [.s (.tag (u 0 0)) (mixR ((markDPostS x k).map (DPost.enc .own)) (x.map (DPost.enc .own)) i)]), (1, .hold .one [I (k + (preDPostS x i : Nat))]), (5, .hold .one [I (i : Nat)])]) (fun i => i ≤ x.length) (fun i => x.length - i) 0 ?_ (Nat.zero_le _) fun i hi => ?_
  · rw [mix_zero, preDPostS_zero]
    repeat' (first | exact trivial | rfl | exact And.intro rfl (And.intro (congrArg I (by omega)) trivial) | refine And.intro ?_ ?_)
  · have hlen := (mix_len hml i).trans (show (x.map (DPost.enc .own)).length = x.length by simp)
    by_cases hlt : i < x.length
    · obtain ⟨y, hy⟩ : ∃ y, x[i]? = some y := ⟨_, List.getElem?_eq_getElem hlt⟩
      have hr := mix_get hml i (by simp; omega)
      rw [get_map hy] at hr
      have hm := markDPostS_get x k i y hy
      have hps := preDPostS_succ x i y hy
      have hpl := preDPostS_le x (i + 1)
      rw [hps] at hpl
      simp only [DPost.cnt] at hps hpl
      repeat' ((conv => whnf); first | with_reducible (first | refine Ln.mk (List.length_map ..) ?_ | refine Wr.mk (wrapI (by omega) (by omega)) ?_ | refine Bf.D (fun h => ?_) (fun h => absurd h (by omega)) | refine Ln.mk hlen ?_ | refine Ix.nat hr ?_ | refine Bf.not ?_ | refine Fin_.mk rfl ?_) | refine Bf.t rfl ?_ | refine Bf.f rfl ?_ | refine Pu.one rfl rfl hr rfl (Nat.le_of_ble_eq_true rfl) rfl ?_ | refine Pu.one rfl rfl (set_get hr) rfl (Nat.le_of_ble_eq_true rfl) rfl ?_ | refine Ix.nat (set_get hr) ?_ | refine Nx.mk (i + 1) (by omega) (by omega) ?_)
      repeat' (first | exact trivial | rfl | exact And.intro rfl (And.intro (congrArg (C.s _) (by first | exact mix_set hml (get_map hm) | (simp only [List.set_set]; exact mix_set hml (get_map hm)))) trivial) | exact And.intro rfl (And.intro (congrArg I (by first | omega | (simp only [DPost.cnt] at hps; omega))) trivial) | refine And.intro ?_ ?_)
    · repeat' ((conv => whnf); first | with_reducible (first | refine Ln.mk (List.length_map ..) ?_ | refine Wr.mk (wrapI (by omega) (by omega)) ?_ | refine Bf.D (fun h => absurd h (by omega)) (fun h => ?_) | refine Ln.mk hlen ?_ | refine Bf.not ?_ | refine Fin_.mk rfl ?_) | refine Bf.t rfl ?_ | refine Bf.f rfl ?_ | refine FinM.mk rfl ?_ ?_)
      · have he : i = x.length := by omega
        subst he
        exact congrArg (fun z => [I z]) (by rw [preDPostS_all])
      · rw [mix_end _ hml (by simp; omega)]
        repeat' (first | exact trivial | exact rfl | refine And.intro ?_ ?_)
theorem markPostSS_ok (x : List (List DPost)) (k : Int) (hs : smlDPostSS x) (h0 : 0 ≤ k) (h1 : k + (cntDPostSS x : Nat) ≤ 1099511627776) : CallsM Tryz.prog 84 false [.mut none (rDPostSS .own x), .val none [I k]] [.mut none (rDPostSS .own (markDPostSS x k)), .val none []] .one [I (k + (cntDPostSS x : Nat))] := by
  have hl : x.length ≤ 1048576 := hs.1
  have hml : ((markDPostSS x k).map (rDPostS .own)).length = (x.map (rDPostS .own)).length := by simp [markDPostSS_len]
  refine fnMOk (n := 19) (mo := [(104, [1, 0])]) (tb := []) [(0, 0), (0, 0)] Tryz.func84 (by kernel_rfl) rfl (by kernel_rfl) (by rfl) (by rfl) (.inr ⟨trivial, trivial⟩) fun u p => ?_
  repeat' ((conv => whnf); first | with_reducible (first | refine Ln.mk (List.length_map ..) ?_ | refine Wr.mk (wrapI (by omega) (by omega)) ?_ | refine Bf.not ?_ | refine Fin_.mk rfl ?_) | refine Bf.t rfl ?_ | refine Bf.f rfl ?_)
  (conv => whnf)
  refine Lp.mk (ι := Nat) (fun i => [(0, .hold .one [.s (.tag (u 0 0)) (mixR ((markDPostSS x k).map (rDPostS .own)) (x.map (rDPostS .own)) i)]), (1, .hold .one [I (k + (preDPostSS x i : Nat))]), (5, .hold .one [I (i : Nat)])]) (fun i => i ≤ x.length) (fun i => x.length - i) 0 ?_ (Nat.zero_le _) fun i hi => ?_
  · rw [mix_zero, preDPostSS_zero]
    repeat' (first | exact trivial | rfl | exact And.intro rfl (And.intro (congrArg I (by omega)) trivial) | refine And.intro ?_ ?_)
  · have hlen := (mix_len hml i).trans (show (x.map (rDPostS .own)).length = x.length by simp)
    by_cases hlt : i < x.length
    · obtain ⟨y, hy⟩ : ∃ y, x[i]? = some y := ⟨_, List.getElem?_eq_getElem hlt⟩
      have hr := mix_get hml i (by simp; omega)
      rw [get_map hy] at hr
      have hm := markDPostSS_get x k i y hy
      have hps := preDPostSS_succ x i y hy
      have hpl := preDPostSS_le x (i + 1)
      rw [hps] at hpl
      repeat' ((conv => whnf); first | with_reducible (first | refine Ln.mk (List.length_map ..) ?_ | refine Wr.mk (wrapI (by omega) (by omega)) ?_ | refine Bf.D (fun h => ?_) (fun h => absurd h (by omega)) | refine Ln.mk hlen ?_ | refine Ix.nat hr ?_ | refine Bf.not ?_ | refine Fin_.mk rfl ?_) | refine Bf.t rfl ?_ | refine Bf.f rfl ?_ | refine Rw.one rfl hr rfl ?_ | refine Lq.one rfl rfl hr rfl (Nat.le_refl _) rfl rfl ?_ | refine ClM.mk (markPostS_ok y _ (hs.2 y (List.mem_of_getElem? hy)) (by omega) (by omega)) (.inl rfl) ?_ | refine Pu.one rfl rfl (set_get hr) rfl (Nat.le_refl _) rfl ?_ | refine Ix.nat (set_get hr) ?_ | refine Nx.mk (i + 1) (by omega) (by omega) ?_)
      repeat' (first | exact trivial | rfl | exact And.intro rfl (And.intro (congrArg (C.s _) (by first | exact mix_set hml (get_map hm) | (simp only [List.set_set]; exact mix_set hml (get_map hm)))) trivial) | exact And.intro rfl (And.intro (congrArg I (by omega)) trivial) | refine And.intro ?_ ?_)
    · repeat' ((conv => whnf); first | with_reducible (first | refine Ln.mk (List.length_map ..) ?_ | refine Wr.mk (wrapI (by omega) (by omega)) ?_ | refine Bf.D (fun h => absurd h (by omega)) (fun h => ?_) | refine Ln.mk hlen ?_ | refine Bf.not ?_ | refine Fin_.mk rfl ?_) | refine Bf.t rfl ?_ | refine Bf.f rfl ?_ | refine FinM.mk rfl ?_ ?_)
      · have he : i = x.length := by omega
        subst he
        exact congrArg (fun z => [I z]) (by rw [preDPostSS_all])
      · rw [mix_end _ hml (by simp; omega)]
        repeat' (first | exact trivial | exact rfl | refine And.intro ?_ ?_)
theorem markMail_ok (x : DMail) (k : Int) (hs : DMail.sml x) (h0 : 0 ≤ k) (h1 : k + (DMail.cnt x : Nat) ≤ 1099511627776) : CallsM Tryz.prog 49 false [.mut (some 2) (DMail.enc .own x), .val none [I k]] [.mut (some 2) (DMail.enc .own (x.mark k)), .val none []] .one [I (k + (DMail.cnt x : Nat))] := by
  obtain ⟨s0, s1⟩ := hs
  unfold DMail.cnt at h1
  refine fnMOk (n := 14) (mo := [(84, [1, 0]), (83, [1, 0])]) (tb := []) [(2, 0), (0, 0)] Tryz.func49 (by kernel_rfl) rfl (by kernel_rfl) (by rfl) (by rfl) (.inr ⟨trivial, trivial⟩) fun u p => ?_
  repeat' ((conv => whnf); first | with_reducible (first | refine Ln.mk (List.length_map ..) ?_ | refine Wr.mk (wrapI (by omega) (by omega)) ?_ | refine Bf.not ?_ | refine Fin_.mk rfl ?_) | refine Bf.t rfl ?_ | refine Bf.f rfl ?_ | refine ClM.mk (markPostSS_ok x.Buffers _ s0 (by omega) (by omega)) (.inl rfl) ?_ | refine ClM.mk (markIntSS_ok x.Inbox _ s1 (by omega) (by omega)) (.inl rfl) ?_ | refine FinM.mk rfl ?_ ?_)
  · exact congrArg (fun z => [I z]) (by unfold DMail.cnt; omega)
  · repeat' (first | exact trivial | exact rfl | refine And.intro ?_ ?_)
theorem markStaleS_ok (x : List DStale) (k : Int) (hs : smlDStaleS x) (h0 : 0 ≤ k) (h1 : k + (cntDStaleS x : Nat) ≤ 1099511627776) : CallsM Tryz.prog 85 false [.mut none (rDStaleS .own x), .val none [I k]] [.mut none (rDStaleS .own (markDStaleS x k)), .val none []] .one [I (k + (cntDStaleS x : Nat))] := by
  have hl : x.length ≤ 1048576 := hs.1
  have hml : ((markDStaleS x k).map (DStale.enc .own)).length = (x.map (DStale.enc .own)).length := by simp [markDStaleS_len]
  refine fnMOk (n := 34) (mo := []) (tb := []) [(0, 0), (0, 0)] Tryz.func85 (by kernel_rfl) rfl (by kernel_rfl) (by rfl) (by rfl) (.inr ⟨trivial, trivial⟩) fun u p => ?_
  repeat' ((conv => whnf); first | with_reducible (first | refine Ln.mk (List.length_map ..) ?_ | refine Wr.mk (wrapI (by omega) (by omega)) ?_ | refine Bf.not ?_ | refine Fin_.mk rfl ?_) | refine Bf.t rfl ?_ | refine Bf.f rfl ?_)
  (conv => whnf)
  refine Lp.mk (ι := Nat) (fun i => [(0, .hold .one [.s (.tag (u 0 0)) (mixR ((markDStaleS x k).map (DStale.enc .own)) (x.map (DStale.enc .own)) i)]), (1, .hold .one [I (k + (preDStaleS x i : Nat))]), (5, .hold .one [I (i : Nat)])]) (fun i => i ≤ x.length) (fun i => x.length - i) 0 ?_ (Nat.zero_le _) fun i hi => ?_
  · rw [mix_zero, preDStaleS_zero]
    repeat' (first | exact trivial | rfl | exact And.intro rfl (And.intro (congrArg I (by omega)) trivial) | refine And.intro ?_ ?_)
  · have hlen := (mix_len hml i).trans (show (x.map (DStale.enc .own)).length = x.length by simp)
    by_cases hlt : i < x.length
    · obtain ⟨y, hy⟩ : ∃ y, x[i]? = some y := ⟨_, List.getElem?_eq_getElem hlt⟩
      have hr := mix_get hml i (by simp; omega)
      rw [get_map hy] at hr
      have hm := markDStaleS_get x k i y hy
      have hps := preDStaleS_succ x i y hy
      have hpl := preDStaleS_le x (i + 1)
      rw [hps] at hpl
      simp only [DStale.cnt] at hps hpl
      repeat' ((conv => whnf); first | with_reducible (first | refine Ln.mk (List.length_map ..) ?_ | refine Wr.mk (wrapI (by omega) (by omega)) ?_ | refine Bf.D (fun h => ?_) (fun h => absurd h (by omega)) | refine Ln.mk hlen ?_ | refine Ix.nat hr ?_ | refine Bf.not ?_ | refine Fin_.mk rfl ?_) | refine Bf.t rfl ?_ | refine Bf.f rfl ?_ | refine Pu.one rfl rfl hr rfl (Nat.le_of_ble_eq_true rfl) rfl ?_ | refine Pu.one rfl rfl (set_get hr) rfl (Nat.le_of_ble_eq_true rfl) rfl ?_ | refine Pu.one rfl rfl (set_get (set_get hr)) rfl (Nat.le_of_ble_eq_true rfl) rfl ?_ | refine Ix.nat (set_get hr) ?_ | refine Ix.nat (set_get (set_get hr)) ?_ | refine Nx.mk (i + 1) (by omega) (by omega) ?_)
      repeat' (first | exact trivial | rfl | exact And.intro rfl (And.intro (congrArg (C.s _) (by first | exact mix_set hml (get_map hm) | (simp only [List.set_set]; exact mix_set hml (get_map hm)))) trivial) | exact And.intro rfl (And.intro (congrArg I (by first | omega | (simp only [DStale.cnt] at hps; omega))) trivial) | refine And.intro ?_ ?_)
    · repeat' ((conv => whnf); first | with_reducible (first | refine Ln.mk (List.length_map ..) ?_ | refine Wr.mk (wrapI (by omega) (by omega)) ?_ | refine Bf.D (fun h => absurd h (by omega)) (fun h => ?_) | refine Ln.mk hlen ?_ | refine Bf.not ?_ | refine Fin_.mk rfl ?_) | refine Bf.t rfl ?_ | refine Bf.f rfl ?_ | refine FinM.mk rfl ?_ ?_)
      · have he : i = x.length := by omega
        subst he
        exact congrArg (fun z => [I z]) (by rw [preDStaleS_all])
      · rw [mix_end _ hml (by simp; omega)]
        repeat' (first | exact trivial | exact rfl | refine And.intro ?_ ?_)
theorem markQuar_ok (x : DQuar) (k : Int) (hs : DQuar.sml x) (h0 : 0 ≤ k) (h1 : k + (DQuar.cnt x : Nat) ≤ 1099511627776) : CallsM Tryz.prog 50 false [.mut (some 2) (DQuar.enc .own x), .val none [I k]] [.mut (some 2) (DQuar.enc .own (x.mark k)), .val none []] .one [I (k + (DQuar.cnt x : Nat))] := by
  have s0 := hs
  unfold DQuar.cnt at h1
  refine fnMOk (n := 10) (mo := [(85, [1, 0])]) (tb := []) [(2, 0), (0, 0)] Tryz.func50 (by kernel_rfl) rfl (by kernel_rfl) (by rfl) (by rfl) (.inr ⟨trivial, trivial⟩) fun u p => ?_
  repeat' ((conv => whnf); first | with_reducible (first | refine Ln.mk (List.length_map ..) ?_ | refine Wr.mk (wrapI (by omega) (by omega)) ?_ | refine Bf.not ?_ | refine Fin_.mk rfl ?_) | refine Bf.t rfl ?_ | refine Bf.f rfl ?_ | refine ClM.mk (markStaleS_ok x.Lst _ s0 (by omega) (by omega)) (.inl rfl) ?_ | refine FinM.mk rfl ?_ ?_)
  · exact congrArg (fun z => [I z]) (by unfold DQuar.cnt; omega)
  · repeat' (first | exact trivial | exact rfl | refine And.intro ?_ ?_)
theorem markPlan_ok (x : DPlan) (k : Int) (hs : DPlan.sml x) (h0 : 0 ≤ k) (h1 : k + (DPlan.cnt x : Nat) ≤ 1099511627776) : CallsM Tryz.prog 86 false [.mut (some 3) (DPlan.enc .own x), .val none [I k]] [.mut (some 3) (DPlan.enc .own (x.mark k)), .val none []] .one [I (k + (DPlan.cnt x : Nat))] := by
  have s0 := hs
  unfold DPlan.cnt at h1
  refine fnMOk (n := 10) (mo := [(12, [1, 0])]) (tb := []) [(2, 0), (0, 0)] Tryz.func86 (by kernel_rfl) rfl (by kernel_rfl) (by rfl) (by rfl) (.inr ⟨trivial, trivial⟩) fun u p => ?_
  repeat' ((conv => whnf); first | with_reducible (first | refine Ln.mk (List.length_map ..) ?_ | refine Wr.mk (wrapI (by omega) (by omega)) ?_ | refine Bf.not ?_ | refine Fin_.mk rfl ?_) | refine Bf.t rfl ?_ | refine Bf.f rfl ?_ | refine ClM.mk (markIntS_ok x.Cells _ s0 (by omega) (by omega)) (.inl rfl) ?_ | refine FinM.mk rfl ?_ ?_)
  · exact congrArg (fun z => [I z]) (by unfold DPlan.cnt; omega)
  · repeat' (first | exact trivial | exact rfl | refine And.intro ?_ ?_)
theorem markJob_ok (x : DJob) (k : Int) (hs : DJob.sml x) (h0 : 0 ≤ k) (h1 : k + (DJob.cnt x : Nat) ≤ 1099511627776) : CallsM Tryz.prog 51 false [.mut (some 5) (DJob.enc .own x), .val none [I k]] [.mut (some 5) (DJob.enc .own (x.mark k)), .val none []] .one [I (k + (DJob.cnt x : Nat))] := by
  have s0 := hs
  unfold DJob.cnt at h1
  refine fnMOk (n := 10) (mo := [(86, [1, 0])]) (tb := []) [(2, 0), (0, 0)] Tryz.func51 (by kernel_rfl) rfl (by kernel_rfl) (by rfl) (by rfl) (.inr ⟨trivial, trivial⟩) fun u p => ?_
  repeat' ((conv => whnf); first | with_reducible (first | refine Ln.mk (List.length_map ..) ?_ | refine Wr.mk (wrapI (by omega) (by omega)) ?_ | refine Bf.not ?_ | refine Fin_.mk rfl ?_) | refine Bf.t rfl ?_ | refine Bf.f rfl ?_ | refine ClM.mk (markPlan_ok x.Plan _ s0 (by omega) (by omega)) (.inl rfl) ?_ | refine FinM.mk rfl ?_ ?_)
  · exact congrArg (fun z => [I z]) (by unfold DJob.cnt; omega)
  · repeat' (first | exact trivial | exact rfl | refine And.intro ?_ ?_)
theorem markHeap_ok (x : DHeap) (k : Int) (hs : DHeap.sml x) (h0 : 0 ≤ k) (h1 : k + (DHeap.cnt x : Nat) ≤ 1099511627776) : CallsM Tryz.prog 11 false [.mut (some 24) (DHeap.enc .own x), .val none [I k]] [.mut (some 24) (DHeap.enc .own (x.mark k)), .val none []] .one [I (k + (DHeap.cnt x : Nat))] := by
  obtain ⟨s0, s1, s2, s3, s4, s5, s6, s7, s8⟩ := hs
  unfold DHeap.cnt at h1
  refine fnMOk (n := 42) (mo := [(51, [1, 0]), (43, [1, 0]), (49, [1, 0]), (50, [1, 0]), (48, [1, 0]), (46, [1, 0]), (47, [1, 0]), (44, [1, 0]), (45, [1, 0])]) (tb := []) [(2, 0), (0, 0)] Tryz.func11 (by kernel_rfl) rfl (by kernel_rfl) (by rfl) (by rfl) (.inr ⟨trivial, trivial⟩) fun u p => ?_
  repeat' ((conv => whnf); first | with_reducible (first | refine Ln.mk (List.length_map ..) ?_ | refine Wr.mk (wrapI (by omega) (by omega)) ?_ | refine Bf.not ?_ | refine Fin_.mk rfl ?_) | refine Bf.t rfl ?_ | refine Bf.f rfl ?_ | refine ClM.mk (markKernel_ok x.Kernel _ s0 (by omega) (by omega)) (.inl rfl) ?_ | refine ClM.mk (markRangeS_ok x.Free _ s1 (by omega) (by omega)) (.inl rfl) ?_ | refine ClM.mk (markSpanS_ok x.Spans _ s2 (by omega) (by omega)) (.inl rfl) ?_ | refine ClM.mk (markLargeS_ok x.Larges _ s3 (by omega) (by omega)) (.inl rfl) ?_ | refine ClM.mk (markObjS_ok x.Objs _ s4 (by omega) (by omega)) (.inl rfl) ?_ | refine ClM.mk (markCacheS_ok x.Caches _ s5 (by omega) (by omega)) (.inl rfl) ?_ | refine ClM.mk (markMail_ok x.Mail _ s6 (by omega) (by omega)) (.inl rfl) ?_ | refine ClM.mk (markQuar_ok x.Quar _ s7 (by omega) (by omega)) (.inl rfl) ?_ | refine ClM.mk (markJob_ok x.Job _ s8 (by omega) (by omega)) (.inl rfl) ?_ | refine FinM.mk rfl ?_ ?_)
  · exact congrArg (fun z => [I z]) (by unfold DHeap.cnt; omega)
  · repeat' (first | exact trivial | exact rfl | refine And.intro ?_ ?_)
end Go.Proofs.YthinjmmlpgjhnaaGreat.Ab
