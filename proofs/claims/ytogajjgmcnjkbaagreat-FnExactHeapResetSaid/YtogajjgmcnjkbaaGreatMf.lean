/- What valid frames, tables, machines and kernels are, and the contracts of the functions that ask it, the reference's and the program's. No condition. -/
import Derived.Test.YtogajjgmcnjkbaaGreatMe

namespace Go.Proofs.YtogajjgmcnjkbaaGreat.Ab
open Go.RowKit
set_option maxRecDepth 20000
set_option maxHeartbeats 4000000
theorem FramesOk_spec (f : DFrames) (hs : DFrames.sml f) : CallsA Tryz.prog 274 false [.val (some 2) (DFrames.enc .imm f)] .one [B (framesOk f)] := by
 have hl := hs.1.1
 have hu : f.Used.length ≤ 1048576 := hs.2
 refine fO (n := 61) [] Tryz.func274 (by kernel_rfl) rfl (by kernel_rfl) (by rfl) (.inr ⟨trivial, trivial⟩) ?_
 repeat' ((conv=>whnf);first|with_reducible (first|refine Lm ?_|refine Wm (by omega) ?_|refine Bf.D (fun hq => ?_) (fun hq => ?_)|refine Bf.N (fun hq => ?_) (fun hq => ?_)|refine Bn ?_|refine Fm rfl ?_)|refine Bt ?_|refine Bu ?_|refine Cl.mk (l01In_ok f.Cells.length 1 32) ?_)
 ·exact congrArg (fun z => [B z]) (by symm; unfold framesOk; rw [decide_eq_false (by omega : ¬ (f.Used.length = f.Cells.length))]; simp)
 rotate_left
 ·exact congrArg (fun z => [B z]) (by symm; unfold framesOk; rw [decide_eq_false (by omega : ¬ (1 ≤ f.Cells.length ∧ f.Cells.length ≤ 32))]; rfl)
 have h32 : 1 ≤ f.Cells.length ∧ f.Cells.length ≤ 32 := by omega
 have huc : f.Used.length = f.Cells.length := by omega
 (conv=>whnf)
 refine Lp.mk (ι := Nat) (fun i => [(1, .hold .box (DFrames.enc .imm f)), (3, .hold .one [I (i : Nat)])]) (fun i => i ≤ f.Cells.length ∧ ((f.Cells.zip f.Used).take i).all (fun q => rowOk q.1 q.2) = true) (fun i => f.Cells.length - i) 0 ?_ ⟨Nat.zero_le _, rfl⟩ fun i hi => ?_
 ·repeat' (first|exact trivial|rfl|refine And.intro ?_ ?_)
 ·obtain ⟨hi, ha⟩ := hi
  by_cases hlt : i < f.Cells.length
  ·obtain ⟨r, hr⟩ : ∃ r, f.Cells[i]? = some r := ⟨_, List.getElem?_eq_getElem hlt⟩
   obtain ⟨u, hu'⟩ : ∃ u, f.Used[i]? = some u := ⟨_, List.getElem?_eq_getElem (by omega)⟩
   repeat' ((conv=>whnf);first|with_reducible (first|refine Lm ?_|refine Wm (by omega) ?_|refine Ix.nat (get_map hr) ?_|refine dT (by omega) (fun hq => ?_)|refine Bf.N (fun hq => ?_) (fun hq => ?_)|refine Bn ?_|refine Fm rfl ?_)|refine Bt ?_|refine Bu ?_)
   ·exact congrArg (fun z => [B z]) (framesOk_no hr hu' (by unfold rowOk; rw [decide_eq_false (by omega)]; rfl)).symm
   have hr16 : r.length = 16 := by omega
   (conv=>whnf)
   refine Lp.mk (ι := Nat) (fun k => [(1, .hold .box (DFrames.enc .imm f)), (3, .hold .one [I (i : Nat)]), (4, .hold .one [I (k : Nat)])]) (fun k => k ≤ 16 ∧ (r.take k).all (celOk u) = true) (fun k => 16 - k) 0 ?_ ⟨Nat.zero_le _, rfl⟩ fun k hk => ?_
   ·repeat' (first|exact trivial|rfl|refine And.intro ?_ ?_)
   ·obtain ⟨hk, hak⟩ := hk
    by_cases hk16 : k < 16
    ·obtain ⟨v, hv⟩ : ∃ v, r[k]? = some v := ⟨_, List.getElem?_eq_getElem (by omega)⟩
     cases u with
     | true =>
      repeat' ((conv=>whnf);first|with_reducible (first|refine Lm ?_|refine Wm (by omega) ?_|refine Ix.nat (get_map hr) ?_|refine Ix.nat (get_map hu') ?_|refine Ix.nat (get_map hv) ?_|refine dT (by omega) (fun hq => ?_)|refine Bf.D (fun hq => ?_) (fun hq => ?_)|refine Bf.N (fun hq => ?_) (fun hq => ?_)|refine Bn ?_|refine Fm rfl ?_)|refine Bt ?_|refine Bu ?_|refine Cl.mk (l01In_ok v 0 999) ?_)
      all_goals first
       | exact congrArg (fun z => [B z]) (framesOk_no hr hu' (rowOk_no hv (by first | (unfold celOk; rw [decide_eq_false (by omega)]; rfl) | (unfold celOk; rw [decide_eq_false (p := v = 0) (by omega)]; simp)))).symm
       | ((conv=>whnf)
          refine Nx.mk (ι := Nat) (k + 1) ⟨(by omega), all_yes hv hak (by unfold celOk; first | (rw [decide_eq_true (by omega)]; rfl) | (rw [decide_eq_true (p := 0 ≤ v ∧ v ≤ 999) (by omega), decide_eq_true (p := v = 0) (by omega)]; rfl))⟩ (by omega) ?_
          (repeat' (first|exact trivial|rfl|refine And.intro ?_ ?_)))
     | false =>
      repeat' ((conv=>whnf);first|with_reducible (first|refine Lm ?_|refine Wm (by omega) ?_|refine Ix.nat (get_map hr) ?_|refine Ix.nat (get_map hu') ?_|refine Ix.nat (get_map hv) ?_|refine dT (by omega) (fun hq => ?_)|refine Bf.D (fun hq => ?_) (fun hq => ?_)|refine Bf.N (fun hq => ?_) (fun hq => ?_)|refine Bn ?_|refine Fm rfl ?_)|refine Bt ?_|refine Bu ?_|refine Cl.mk (l01In_ok v 0 999) ?_)
      all_goals first
       | exact congrArg (fun z => [B z]) (framesOk_no hr hu' (rowOk_no hv (by first | (unfold celOk; rw [decide_eq_false (by omega)]; rfl) | (unfold celOk; rw [decide_eq_false (p := v = 0) (by omega)]; simp)))).symm
       | ((conv=>whnf)
          refine Nx.mk (ι := Nat) (k + 1) ⟨(by omega), all_yes hv hak (by unfold celOk; first | (rw [decide_eq_true (by omega)]; rfl) | (rw [decide_eq_true (p := 0 ≤ v ∧ v ≤ 999) (by omega), decide_eq_true (p := v = 0) (by omega)]; rfl))⟩ (by omega) ?_
          (repeat' (first|exact trivial|rfl|refine And.intro ?_ ?_)))
    ·repeat' ((conv=>whnf);first|with_reducible (first|refine Lm ?_|refine Wm (by omega) ?_|refine dF (by omega) (fun hq => ?_)|refine Bn ?_|refine Fm rfl ?_)|refine Bt ?_|refine Bu ?_)
     (conv=>whnf)
     refine Nx.mk (i + 1) ⟨by omega, all_yes (zip_get hr hu') ha (by unfold rowOk; rw [all_end (by omega) hak]; simp [hr16])⟩ (by omega) ?_
     repeat' (first|exact trivial|rfl|refine And.intro ?_ ?_)
  ·repeat' ((conv=>whnf);first|with_reducible (first|refine Lm ?_|refine Wm (by omega) ?_|refine dF (by omega) (fun hq => ?_)|refine Bn ?_|refine Fm rfl ?_)|refine Bt ?_|refine Bu ?_)
   exact congrArg (fun z => [B z]) (by symm; unfold framesOk; rw [all_end (by rw [List.length_zip]; omega) ha]; simp [h32, huc])
theorem FramesOk_impl (f : DFrames) (hs : DFrames.sml f) : CallsA Tryz.prog 197 false [.val (some 2) (DFrames.enc .imm f)] .one [B (framesOk f)] := by
 have hl := hs.1.1
 have hu : f.Used.length ≤ 1048576 := hs.2
 refine fO (n := 55) [] Tryz.func197 (by kernel_rfl) rfl (by kernel_rfl) (by rfl) (.inr ⟨trivial, trivial⟩) ?_
 repeat' ((conv=>whnf);first|with_reducible (first|refine Lm ?_|refine Wm (by omega) ?_|refine Bf.D (fun hq => ?_) (fun hq => ?_)|refine Bf.N (fun hq => ?_) (fun hq => ?_)|refine Bn ?_|refine Fm rfl ?_)|refine Bt ?_|refine Bu ?_|refine Cl.mk (between_ok f.Cells.length 1 32) ?_)
 ·exact congrArg (fun z => [B z]) (by symm; unfold framesOk; rw [decide_eq_false (by omega : ¬ (f.Used.length = f.Cells.length))]; simp)
 rotate_left
 ·exact congrArg (fun z => [B z]) (by symm; unfold framesOk; rw [decide_eq_false (by omega : ¬ (1 ≤ f.Cells.length ∧ f.Cells.length ≤ 32))]; rfl)
 have h32 : 1 ≤ f.Cells.length ∧ f.Cells.length ≤ 32 := by omega
 have huc : f.Used.length = f.Cells.length := by omega
 (conv=>whnf)
 refine Lp.mk (ι := Nat) (fun i => [(1, .hold .box (DFrames.enc .imm f)), (22, .hold .one (rIntSS .imm f.Cells)), (23, .hold .one [I (f.Cells.length)]), (24, .hold .one [I ((i : Nat) : Int)])]) (fun i => i ≤ f.Cells.length ∧ ((f.Cells.zip f.Used).take i).all (fun q => rowOk q.1 q.2) = true) (fun i => f.Cells.length - i) (0) ?_ (⟨Nat.zero_le _, rfl⟩) fun i hi => ?_
 ·repeat' (first|exact trivial|rfl|refine And.intro ?_ ?_)
 obtain ⟨hi, ha⟩ := hi
 by_cases hlt : i < f.Cells.length
 ·obtain ⟨r, hr⟩ : ∃ r, f.Cells[i]? = some r := ⟨_, List.getElem?_eq_getElem hlt⟩
  obtain ⟨u, hu'⟩ : ∃ u, f.Used[i]? = some u := ⟨_, List.getElem?_eq_getElem (by omega)⟩
  have hrl : r.length ≤ 1048576 := hs.1.2 r (List.mem_of_getElem? hr)
  repeat' ((conv=>whnf);first|with_reducible (first|refine Lm ?_|refine Wm (by omega) ?_|refine Ix.nat (get_map hr) ?_|refine dT (by omega) (fun hq => ?_)|refine Bf.N (fun hq => ?_) (fun hq => ?_)|refine Bn ?_|refine Fm rfl ?_)|refine Bt ?_|refine Bu ?_)
  ·exact congrArg (fun z => [B z]) (framesOk_no hr hu' (by unfold rowOk; rw [decide_eq_false (by omega)]; rfl)).symm
  have hr16 : r.length = 16 := by omega
  (conv=>whnf)
  refine Lp.mk (ι := Nat) (fun k => [(1, .hold .box (DFrames.enc .imm f)), (3, .hold .one [I ((i : Nat) : Int)]), (22, .hold .one (rIntSS .imm f.Cells)), (23, .hold .one [I (f.Cells.length)]), (24, .hold .one [I ((i : Nat) : Int)]), (32, .hold .one (rIntS .imm r)), (33, .hold .one [I (r.length)]), (34, .hold .one [I ((k : Nat) : Int)])]) (fun k => k ≤ r.length ∧ (r.take k).all (celOk u) = true) (fun k => r.length - k) (0) ?_ (⟨Nat.zero_le _, rfl⟩) fun k hk => ?_
  ·repeat' (first|exact trivial|rfl|refine And.intro ?_ ?_)
  obtain ⟨hk, hak⟩ := hk
  by_cases hk16 : k < r.length
  ·obtain ⟨v, hv⟩ : ∃ v, r[k]? = some v := ⟨_, List.getElem?_eq_getElem (by omega)⟩
   cases u with
   | true =>
    repeat' ((conv=>whnf);first|with_reducible (first|refine Lm ?_|refine Wm (by omega) ?_|refine Ix.nat (get_map hr) ?_|refine Ix.nat (get_map hu') ?_|refine Ix.nat (get_map hv) ?_|refine dT (by omega) (fun hq => ?_)|refine Bf.D (fun hq => ?_) (fun hq => ?_)|refine Bf.N (fun hq => ?_) (fun hq => ?_)|refine Bn ?_|refine Fm rfl ?_)|refine Bt ?_|refine Bu ?_|refine Cl.mk (between_ok v 0 999) ?_)
    all_goals first
     | exact congrArg (fun z => [B z]) (framesOk_no hr hu' (rowOk_no hv (by unfold celOk; grind))).symm
     | ((conv=>whnf)
        refine Nx.mk (ι := Nat) (k + 1) ⟨(by omega), all_yes hv hak (by unfold celOk; grind)⟩ (by omega) ?_
        (repeat' (first|exact trivial|rfl|refine And.intro ?_ ?_)))
   | false =>
    repeat' ((conv=>whnf);first|with_reducible (first|refine Lm ?_|refine Wm (by omega) ?_|refine Ix.nat (get_map hr) ?_|refine Ix.nat (get_map hu') ?_|refine Ix.nat (get_map hv) ?_|refine dT (by omega) (fun hq => ?_)|refine Bf.D (fun hq => ?_) (fun hq => ?_)|refine Bf.N (fun hq => ?_) (fun hq => ?_)|refine Bn ?_|refine Fm rfl ?_)|refine Bt ?_|refine Bu ?_|refine Cl.mk (between_ok v 0 999) ?_)
    all_goals first
     | exact congrArg (fun z => [B z]) (framesOk_no hr hu' (rowOk_no hv (by unfold celOk; grind))).symm
     | ((conv=>whnf)
        refine Nx.mk (ι := Nat) (k + 1) ⟨(by omega), all_yes hv hak (by unfold celOk; grind)⟩ (by omega) ?_
        (repeat' (first|exact trivial|rfl|refine And.intro ?_ ?_)))
  ·repeat' ((conv=>whnf);first|with_reducible (first|refine Lm ?_|refine Wm (by omega) ?_|refine dF (by omega) (fun hq => ?_)|refine Bn ?_|refine Fm rfl ?_)|refine Bt ?_|refine Bu ?_)
   (conv=>whnf)
   refine Nx.mk (i + 1) ⟨by omega, all_yes (zip_get hr hu') ha (by unfold rowOk; rw [all_end (by omega) hak]; simp [hr16])⟩ (by omega) ?_
   repeat' (first|exact trivial|rfl|refine And.intro ?_ ?_)
 ·repeat' ((conv=>whnf);first|with_reducible (first|refine Lm ?_|refine Wm (by omega) ?_|refine dF (by omega) (fun hq => ?_)|refine Bn ?_|refine Fm rfl ?_)|refine Bt ?_|refine Bu ?_)
  exact congrArg (fun z => [B z]) (by symm; unfold framesOk; rw [all_end (by rw [List.length_zip]; omega) ha]; simp [h32, huc])
/- tables -/
theorem TableOk_spec (t : DTable) (fr : Int) (hs : DTable.sml t) : CallsA Tryz.prog 289 false [.val (some 1) (DTable.enc .imm t), .val none [I fr]] .one [B (tableOk t fr)] := by
 have hl := hs.1
 refine fO (n := 54) [] Tryz.func289 (by kernel_rfl) rfl (by kernel_rfl) (by rfl) (.inr ⟨trivial, trivial⟩) ?_
 repeat' ((conv=>whnf);first|with_reducible (first|refine Lm ?_|refine Wm (by omega) ?_|refine Bn ?_|refine Fm rfl ?_)|refine Bt ?_|refine Bu ?_)
 (conv=>whnf)
 refine Lp.mk (ι := Nat) (fun i => [(1, .hold .one [I (fr)]), (2, .hold .box (DTable.enc .imm t)), (5, .hold .one [I ((i : Nat) : Int)])]) (fun i => i ≤ t.Entries.length ∧ allN i (fun j => entOk fr (nth t.Entries j)) = true) (fun i => t.Entries.length - i) 0 ?_ ⟨Nat.zero_le _, rfl⟩ fun i hi => ?_
 ·repeat' (first|exact trivial|rfl|refine And.intro ?_ ?_)
 obtain ⟨hi, ai⟩ := hi
 by_cases li : i < t.Entries.length
 ·have hx := get_nth li
  repeat' ((conv=>whnf);first|with_reducible (first|refine Lm ?_|refine Wm (by omega) ?_|refine Ix.nat (get_map hx) ?_|refine dT (by omega) (fun hq => ?_)|refine Bf.D (fun hq => ?_) (fun hq => ?_)|refine Bf.N (fun hq => ?_) (fun hq => ?_)|refine Bf.E (fun hq => ?_) (fun hq => ?_)|refine Bn ?_|refine Fm rfl ?_)|refine Bt ?_|refine Bu ?_|refine Cl.mk (l01In_ok _ 0 2) ?_)
  all_goals first
   | exact congrArg (fun z => [B z]) ((by symm; unfold tableOk; rw [allN_no li (decide_eq_false (by grind))]; rfl))
   | ((conv=>whnf);refine Nx.mk (i + 1) ⟨by omega, allN_yes ai (decide_eq_true (by grind))⟩ (by omega) ?_; (repeat' (first|exact trivial|rfl|refine And.intro ?_ ?_)))
 ·repeat' ((conv=>whnf);first|with_reducible (first|refine Lm ?_|refine Wm (by omega) ?_|refine dF (by omega) (fun hq => ?_)|refine Bn ?_|refine Fm rfl ?_)|refine Bt ?_|refine Bu ?_|refine Cl.mk (l01In_ok _ 1 32) ?_)
  obtain rfl : i = t.Entries.length := by omega
  exact congrArg (fun z => [B z]) ((by unfold tableOk; rw [ai, Bool.true_and]; exact decide_eq_decide.2 (by omega)))
theorem TableOk_impl (t : DTable) (fr : Int) (hs : DTable.sml t) : CallsA Tryz.prog 303 false [.val (some 1) (DTable.enc .imm t), .val none [I fr]] .one [B (tableOk t fr)] := by
 have hl := hs.1
 refine fO (n := 49) [] Tryz.func303 (by kernel_rfl) rfl (by kernel_rfl) (by rfl) (.inr ⟨trivial, trivial⟩) ?_
 repeat' ((conv=>whnf);first|with_reducible (first|refine Lm ?_|refine Wm (by omega) ?_|refine Bn ?_|refine Fm rfl ?_)|refine Bt ?_|refine Bu ?_)
 (conv=>whnf)
 refine Lp.mk (ι := Nat) (fun i => [(1, .hold .one [I (fr)]), (2, .hold .box (DTable.enc .imm t)), (8, .hold .one (rDEntryS .imm t.Entries)), (9, .hold .one [I (t.Entries.length)]), (10, .hold .one [I ((i : Nat) : Int)])]) (fun i => i ≤ t.Entries.length ∧ allN i (fun j => entOk fr (nth t.Entries j)) = true) (fun i => t.Entries.length - i) 0 ?_ ⟨Nat.zero_le _, rfl⟩ fun i hi => ?_
 ·repeat' (first|exact trivial|rfl|refine And.intro ?_ ?_)
 obtain ⟨hi, ai⟩ := hi
 by_cases li : i < t.Entries.length
 ·have hx := get_nth li
  repeat' ((conv=>whnf);first|with_reducible (first|refine Lm ?_|refine Wm (by omega) ?_|refine Ix.nat (get_map hx) ?_|refine dT (by omega) (fun hq => ?_)|refine Bf.D (fun hq => ?_) (fun hq => ?_)|refine Bf.N (fun hq => ?_) (fun hq => ?_)|refine Bf.E (fun hq => ?_) (fun hq => ?_)|refine Bn ?_|refine Fm rfl ?_)|refine Bt ?_|refine Bu ?_|refine Cl.mk (between_ok _ 0 2) ?_)
  all_goals first
   | exact congrArg (fun z => [B z]) ((by symm; unfold tableOk; rw [allN_no li (decide_eq_false (by grind))]; rfl))
   | ((conv=>whnf);refine Nx.mk (i + 1) ⟨by omega, allN_yes ai (decide_eq_true (by grind))⟩ (by omega) ?_; (repeat' (first|exact trivial|rfl|refine And.intro ?_ ?_)))
 ·repeat' ((conv=>whnf);first|with_reducible (first|refine Lm ?_|refine Wm (by omega) ?_|refine dF (by omega) (fun hq => ?_)|refine Bn ?_|refine Fm rfl ?_)|refine Bt ?_|refine Bu ?_|refine Cl.mk (between_ok _ 1 32) ?_)
  obtain rfl : i = t.Entries.length := by omega
  exact congrArg (fun z => [B z]) ((by unfold tableOk; rw [ai, Bool.true_and]; exact decide_eq_decide.2 (by omega)))
end Go.Proofs.YtogajjgmcnjkbaaGreat.Ab
/- Pages of a table, valid machines and kernels: the contracts of the functions that ask it, the reference's and the program's. No condition. -/
namespace Go.Proofs.YtogajjgmcnjkbaaGreat.Ab
open Go.RowKit
set_option maxRecDepth 20000
set_option maxHeartbeats 4000000
theorem PagesOn_spec (t : DTable) (f : Int) (hs : DTable.sml t) : CallsA Tryz.prog 290 false [.val (some 1) (DTable.enc .imm t), .val none [I f]] .one (rIntS .own (pagesOn t f)) := by
 have hl := hs.1
 refine fO (n := 37) [] Tryz.func290 (by kernel_rfl) rfl (by kernel_rfl) (by rfl) (.inr (rIntS_fr _)) ?_
 repeat' ((conv=>whnf);first|with_reducible (first|refine Lm ?_|refine Wm (by omega) ?_|refine Bn ?_|refine Fm rfl ?_)|refine Bt ?_|refine Bu ?_)
 (conv=>whnf)
 refine Lp.mk (ι := Nat) (fun i => [(1, .hold .one [I (f)]), (2, .hold .box (DTable.enc .imm t)), (5, .hold .one (rIntS .own (pgsOn t f i))), (6, .hold .one [I ((i : Nat) : Int)])]) (fun i => i ≤ t.Entries.length) (fun i => t.Entries.length - i) (0) ?_ (Nat.zero_le _) fun i hi => ?_
 ·repeat' (first|exact trivial|rfl|refine And.intro ?_ ?_)
 have hpl := pgsOn_len t f i
 by_cases li : i < t.Entries.length
 ·have hx := get_nth li
  repeat' ((conv=>whnf);first|with_reducible (first|refine Lm ?_|refine Wm (by omega) ?_|refine Ix.nat (get_map hx) ?_|refine dT (by omega) (fun hq => ?_)|refine Bf.D (fun hq => ?_) (fun hq => ?_)|refine Bf.N (fun hq => ?_) (fun hq => ?_)|refine Bf.E (fun hq => ?_) (fun hq => ?_)|refine Bn ?_|refine Fm rfl ?_)|refine Bt ?_|refine Bu ?_|refine Ap.mk rowI_one (fun r hr => by rw [List.mem_singleton.1 hr]; rfl) (by simp [noOwn, isOwn]) (by simp; omega) (by simp only [List.length_map]; exact mkB (by simp; omega) (by decide)) rfl ?_)
  all_goals first
   |(have hon : onF t f i = true := decide_eq_true (by grind)
     (conv=>whnf)
     refine Nx.mk (i + 1) (by omega) (by omega) ?_
     rw [pgsOn_yes hon]
     (repeat' (first|exact trivial|rfl|exact And.intro rfl (And.intro (congrArg (C.s Own.own) (by simp [rI])) trivial)|refine And.intro ?_ ?_)))
   |(have hon : onF t f i = false := decide_eq_false (by grind)
     (conv=>whnf)
     refine Nx.mk (i + 1) (by omega) (by omega) ?_
     rw [pgsOn_no hon]
     (repeat' (first|exact trivial|rfl|refine And.intro ?_ ?_)))
 ·repeat' ((conv=>whnf);first|with_reducible (first|refine Lm ?_|refine Wm (by omega) ?_|refine dF (by omega) (fun hq => ?_)|refine Bn ?_|refine Fm rfl ?_)|refine Bt ?_|refine Bu ?_)
  obtain rfl : i = t.Entries.length := by omega
  rfl
theorem PagesOn_impl (t : DTable) (f : Int) (hs : DTable.sml t) : CallsA Tryz.prog 304 false [.val (some 1) (DTable.enc .imm t), .val none [I f]] .one (rIntS .own (pagesOn t f)) := by
 have hl := hs.1
 refine fO (n := 32) [] Tryz.func304 (by kernel_rfl) rfl (by kernel_rfl) (by rfl) (.inr (rIntS_fr _)) ?_
 repeat' ((conv=>whnf);first|with_reducible (first|refine Lm ?_|refine Wm (by omega) ?_|refine Bn ?_|refine Fm rfl ?_)|refine Bt ?_|refine Bu ?_)
 (conv=>whnf)
 refine Lp.mk (ι := Nat) (fun i => [(1, .hold .one [I (f)]), (5, .hold .one (rIntS .own (pgsOn t f i))), (10, .hold .one (rDEntryS .imm t.Entries)), (11, .hold .one [I (t.Entries.length)]), (12, .hold .one [I ((i : Nat) : Int)])]) (fun i => i ≤ t.Entries.length) (fun i => t.Entries.length - i) (0) ?_ (Nat.zero_le _) fun i hi => ?_
 ·repeat' (first|exact trivial|rfl|refine And.intro ?_ ?_)
 have hpl := pgsOn_len t f i
 by_cases li : i < t.Entries.length
 ·have hx := get_nth li
  repeat' ((conv=>whnf);first|with_reducible (first|refine Lm ?_|refine Wm (by omega) ?_|refine Ix.nat (get_map hx) ?_|refine dT (by omega) (fun hq => ?_)|refine Bf.D (fun hq => ?_) (fun hq => ?_)|refine Bf.N (fun hq => ?_) (fun hq => ?_)|refine Bf.E (fun hq => ?_) (fun hq => ?_)|refine Bn ?_|refine Fm rfl ?_)|refine Bt ?_|refine Bu ?_|refine Ap.mk rowI_one (fun r hr => by rw [List.mem_singleton.1 hr]; rfl) (by simp [noOwn, isOwn]) (by simp; omega) (by simp only [List.length_map]; exact mkB (by simp; omega) (by decide)) rfl ?_)
  all_goals first
   |(have hon : onF t f i = true := decide_eq_true (by grind)
     (conv=>whnf)
     refine Nx.mk (i + 1) (by omega) (by omega) ?_
     rw [pgsOn_yes hon]
     (repeat' (first|exact trivial|rfl|exact And.intro rfl (And.intro (congrArg (C.s Own.own) (by simp [rI])) trivial)|refine And.intro ?_ ?_)))
   |(have hon : onF t f i = false := decide_eq_false (by grind)
     (conv=>whnf)
     refine Nx.mk (i + 1) (by omega) (by omega) ?_
     rw [pgsOn_no hon]
     (repeat' (first|exact trivial|rfl|refine And.intro ?_ ?_)))
 ·repeat' ((conv=>whnf);first|with_reducible (first|refine Lm ?_|refine Wm (by omega) ?_|refine dF (by omega) (fun hq => ?_)|refine Bn ?_|refine Fm rfl ?_)|refine Bt ?_|refine Bu ?_)
  obtain rfl : i = t.Entries.length := by omega
  rfl
theorem PageEntry_spec (t : DTable) (p : Int) (hs : DTable.sml t) : CallsA Tryz.prog 169 false [.val (some 1) (DTable.enc .imm t), .val none [I p]] .agg (DEntry.enc .own (pageEntry t p)) := by
 have hl := hs.1
 refine fO (n := 18) [] Tryz.func169 (by kernel_rfl) rfl (by kernel_rfl) (by rfl) (.inr (DEntry.enc_fr _)) ?_
 by_cases hp : 0 ≤ p ∧ p < t.Entries.length
 ·have hx := get_nth (xs := t.Entries) (i := p.toNat) (by omega)
  repeat' ((conv=>whnf);first|with_reducible (first|refine Lm ?_|refine Wm (by omega) ?_|refine dT (by omega) (fun hq => ?_)|refine dF (by omega) (fun hq => ?_)|refine Bn ?_|refine Fm rfl ?_)|refine Bt ?_|refine Bu ?_|refine Cl.mk (l01In_ok _ 0 _) ?_|refine Ix.mk hp.1 (get_map hx) ?_)
  all_goals (unfold pageEntry; rw [if_pos hp]; rfl)
 ·repeat' ((conv=>whnf);first|with_reducible (first|refine Lm ?_|refine Wm (by omega) ?_|refine dT (by omega) (fun hq => ?_)|refine dF (by omega) (fun hq => ?_)|refine Bn ?_|refine Fm rfl ?_)|refine Bt ?_|refine Bu ?_|refine Cl.mk (l01In_ok _ 0 _) ?_)
  all_goals (unfold pageEntry; rw [if_neg hp]; rfl)
theorem PageEntry_impl (t : DTable) (p : Int) (hs : DTable.sml t) : CallsA Tryz.prog 183 false [.val (some 1) (DTable.enc .imm t), .val none [I p]] .agg (DEntry.enc .own (pageEntry t p)) := by
 have hl := hs.1
 refine fO (n := 18) [] Tryz.func183 (by kernel_rfl) rfl (by kernel_rfl) (by rfl) (.inr (DEntry.enc_fr _)) ?_
 by_cases hp : 0 ≤ p ∧ p < t.Entries.length
 ·have hx := get_nth (xs := t.Entries) (i := p.toNat) (by omega)
  repeat' ((conv=>whnf);first|with_reducible (first|refine Lm ?_|refine Wm (by omega) ?_|refine dT (by omega) (fun hq => ?_)|refine dF (by omega) (fun hq => ?_)|refine Bn ?_|refine Fm rfl ?_)|refine Bt ?_|refine Bu ?_|refine Cl.mk (between_ok _ 0 _) ?_|refine Ix.mk hp.1 (get_map hx) ?_)
  all_goals (unfold pageEntry; rw [if_pos hp]; rfl)
 ·repeat' ((conv=>whnf);first|with_reducible (first|refine Lm ?_|refine Wm (by omega) ?_|refine dT (by omega) (fun hq => ?_)|refine dF (by omega) (fun hq => ?_)|refine Bn ?_|refine Fm rfl ?_)|refine Bt ?_|refine Bu ?_|refine Cl.mk (between_ok _ 0 _) ?_)
  all_goals (unfold pageEntry; rw [if_neg hp]; rfl)
theorem pagesOn_le (t : DTable) (f : Int) : (pagesOn t f).length ≤ t.Entries.length := pgsOn_len ..
theorem MachineOk_spec (m : DMachine) (hs : DMachine.sml m) : CallsA Tryz.prog 201 false [.val (some 3) (DMachine.enc .imm m)] .one [B (machineOk m)] := by
 have hu : m.Frames.Used.length ≤ 1048576 := hs.1.2
 have hfc : m.Frames.Cells.length ≤ 1048576 := hs.1.1.1
 have hf := FramesOk_spec m.Frames hs.1
 have ht := TableOk_spec m.Table m.Frames.Cells.length hs.2
 cases h1 : framesOk m.Frames with
 | false =>
  rw [h1] at hf
  refine fO (n := 39) [(6,13,[26,27,28,29,30,31,32,33,34,35,36,37,38])] Tryz.func201 (by kernel_rfl) rfl (by kernel_rfl) (by rfl) (.inr ⟨trivial, trivial⟩) ?_
  repeat' ((conv=>whnf);first|with_reducible (first|refine Lm ?_|refine Wm (by omega) ?_|refine Bn ?_|refine Fm rfl ?_)|refine Bt ?_|refine Bu ?_|refine Cl.mk hf ?_)
  exact congrArg (fun z => [B z]) ((by unfold machineOk; rw [h1]; rfl))
 | true =>
  have hlen := framesOk_len h1
  rw [h1] at hf
  cases h2 : tableOk m.Table m.Frames.Used.length with
  | false =>
   rw [show (m.Frames.Cells.length : Int) = m.Frames.Used.length by omega, h2] at ht
   refine fO (n := 39) [(6,13,[26,27,28,29,30,31,32,33,34,35,36,37,38])] Tryz.func201 (by kernel_rfl) rfl (by kernel_rfl) (by rfl) (.inr ⟨trivial, trivial⟩) ?_
   repeat' ((conv=>whnf);first|with_reducible (first|refine Lm ?_|refine Wm (by omega) ?_|refine Bn ?_|refine Fm rfl ?_)|refine Bt ?_|refine Bu ?_|refine Cl.mk hf ?_|refine Cl.mk ((show (m.Frames.Cells.length : Int) = m.Frames.Used.length by omega) ▸ ht) ?_)
   exact congrArg (fun z => [B z]) ((by unfold machineOk; rw [h1, h2]; rfl))
  | true =>
   rw [show (m.Frames.Cells.length : Int) = m.Frames.Used.length by omega, h2] at ht
   refine fO (n := 39) [(6,13,[26,27,28,29,30,31,32,33,34,35,36,37,38])] Tryz.func201 (by kernel_rfl) rfl (by kernel_rfl) (by rfl) (.inr ⟨trivial, trivial⟩) ?_
   repeat' ((conv=>whnf);first|with_reducible (first|refine Lm ?_|refine Wm (by omega) ?_|refine Bn ?_|refine Fm rfl ?_)|refine Bt ?_|refine Bu ?_|refine Cl.mk hf ?_|refine Cl.mk ((show (m.Frames.Cells.length : Int) = m.Frames.Used.length by omega) ▸ ht) ?_)
   (conv=>whnf)
   refine Lp.mk (ι := Nat) (fun i => [(1, .hold .box (DMachine.enc .imm m)), (3, .hold .one [I ((i : Nat) : Int)])]) (fun i => i ≤ m.Frames.Used.length ∧ allN i (machOk m) = true) (fun i => m.Frames.Used.length - i) 0 ?_ ⟨Nat.zero_le _, rfl⟩ fun i hi => ?_
   ·repeat' (first|exact trivial|rfl|refine And.intro ?_ ?_)
   obtain ⟨hi, ai⟩ := hi
   by_cases li : i < m.Frames.Used.length
   ·have hx := get_nth li
    have hpl := pagesOn_le m.Table (i : Nat)
    repeat' ((conv=>whnf);first|with_reducible (first|refine Lm ?_|refine Wm (by omega) ?_|refine Ix.nat (get_map hx) ?_|refine dT (by omega) (fun hq => ?_)|refine Bf.NB (fun hq => ?_) (fun hq => ?_)|refine Bn ?_|refine Fm rfl ?_)|refine Bt ?_|refine Bu ?_|refine Cl.mk (PagesOn_spec m.Table (i : Nat) hs.2) ?_)
    all_goals first
     | exact congrArg (fun z => [B z]) ((by symm; unfold machineOk; rw [h1, h2, allN_no li (by unfold machOk; grind)]; rfl))
     | ((conv=>whnf);refine Nx.mk (i + 1) ⟨by omega, allN_yes ai (by unfold machOk; grind)⟩ (by omega) ?_; (repeat' (first|exact trivial|rfl|refine And.intro ?_ ?_)))
   ·repeat' ((conv=>whnf);first|with_reducible (first|refine Lm ?_|refine Wm (by omega) ?_|refine dF (by omega) (fun hq => ?_)|refine Bn ?_|refine Fm rfl ?_)|refine Bt ?_|refine Bu ?_)
    obtain rfl : i = m.Frames.Used.length := by omega
    exact congrArg (fun z => [B z]) ((by unfold machineOk; rw [h1, h2, ai]; rfl))
end Go.Proofs.YtogajjgmcnjkbaaGreat.Ab
/- The program's valid machines, kernels, ranges, spans, large objects: contracts of the functions that ask it. No condition. -/
namespace Go.Proofs.YtogajjgmcnjkbaaGreat.Ab
open Go.RowKit
set_option maxRecDepth 20000
set_option maxHeartbeats 4000000
theorem MachineOk_impl (m : DMachine) (hs : DMachine.sml m) : CallsA Tryz.prog 224 false [.val (some 3) (DMachine.enc .imm m)] .one [B (machineOk m)] := by
 have hu : m.Frames.Used.length ≤ 1048576 := hs.1.2
 have hf := FramesOk_impl m.Frames hs.1
 have ht := TableOk_impl m.Table m.Frames.Used.length hs.2
 cases h1 : framesOk m.Frames with
 | false =>
  rw [h1] at hf
  refine fO (n := 37) [] Tryz.func224 (by kernel_rfl) rfl (by kernel_rfl) (by rfl) (.inr ⟨trivial, trivial⟩) ?_
  repeat' ((conv=>whnf);first|with_reducible (first|refine Lm ?_|refine Wm (by omega) ?_|refine Bn ?_|refine Fm rfl ?_)|refine Bt ?_|refine Bu ?_|refine Cl.mk hf ?_)
  exact congrArg (fun z => [B z]) ((by unfold machineOk; rw [h1]; rfl))
 | true =>
  rw [h1] at hf
  cases h2 : tableOk m.Table m.Frames.Used.length with
  | false =>
   rw [h2] at ht
   refine fO (n := 37) [] Tryz.func224 (by kernel_rfl) rfl (by kernel_rfl) (by rfl) (.inr ⟨trivial, trivial⟩) ?_
   repeat' ((conv=>whnf);first|with_reducible (first|refine Lm ?_|refine Wm (by omega) ?_|refine Bn ?_|refine Fm rfl ?_)|refine Bt ?_|refine Bu ?_|refine Cl.mk hf ?_|refine Cl.mk ht ?_)
   exact congrArg (fun z => [B z]) ((by unfold machineOk; rw [h1, h2]; rfl))
  | true =>
   rw [h2] at ht
   refine fO (n := 37) [] Tryz.func224 (by kernel_rfl) rfl (by kernel_rfl) (by rfl) (.inr ⟨trivial, trivial⟩) ?_
   repeat' ((conv=>whnf);first|with_reducible (first|refine Lm ?_|refine Wm (by omega) ?_|refine Bn ?_|refine Fm rfl ?_)|refine Bt ?_|refine Bu ?_|refine Cl.mk hf ?_|refine Cl.mk ht ?_)
   (conv=>whnf)
   refine Lp.mk (ι := Nat) (fun i => [(1, .hold .box (DMachine.enc .imm m)), (21, .hold .one (rBoolS .imm m.Frames.Used)), (22, .hold .one [I (m.Frames.Used.length)]), (23, .hold .one [I ((i : Nat) : Int)])]) (fun i => i ≤ m.Frames.Used.length ∧ allN i (machOk m) = true) (fun i => m.Frames.Used.length - i) 0 ?_ ⟨Nat.zero_le _, rfl⟩ fun i hi => ?_
   ·repeat' (first|exact trivial|rfl|refine And.intro ?_ ?_)
   obtain ⟨hi, ai⟩ := hi
   by_cases li : i < m.Frames.Used.length
   ·have hx := get_nth li
    have hpl := pagesOn_le m.Table (i : Nat)
    repeat' ((conv=>whnf);first|with_reducible (first|refine Lm ?_|refine Wm (by omega) ?_|refine Ix.nat (get_map hx) ?_|refine dT (by omega) (fun hq => ?_)|refine Bf.NB (fun hq => ?_) (fun hq => ?_)|refine Bn ?_|refine Fm rfl ?_)|refine Bt ?_|refine Bu ?_|refine Cl.mk (PagesOn_impl m.Table (i : Nat) hs.2) ?_)
    all_goals first
     | exact congrArg (fun z => [B z]) ((by symm; unfold machineOk; rw [h1, h2, allN_no li (by unfold machOk; grind)]; rfl))
     | ((conv=>whnf);refine Nx.mk (i + 1) ⟨by omega, allN_yes ai (by unfold machOk; grind)⟩ (by omega) ?_; (repeat' (first|exact trivial|rfl|refine And.intro ?_ ?_)))
   ·repeat' ((conv=>whnf);first|with_reducible (first|refine Lm ?_|refine Wm (by omega) ?_|refine dF (by omega) (fun hq => ?_)|refine Bn ?_|refine Fm rfl ?_)|refine Bt ?_|refine Bu ?_)
    obtain rfl : i = m.Frames.Used.length := by omega
    exact congrArg (fun z => [B z]) ((by unfold machineOk; rw [h1, h2, ai]; rfl))
theorem KernelOk_spec (k : DKernel) (hs : DKernel.sml k) : CallsA Tryz.prog 89 false [.val (some 5) (DKernel.enc .imm k)] .one [B (kernelOk k)] := by
 have hr : k.Refuse.length ≤ 1048576 := hs.2
 have hm := MachineOk_spec k.Machine hs.1
 refine fO (n := 31) [] Tryz.func89 (by kernel_rfl) rfl (by kernel_rfl) (by rfl) (.inr ⟨trivial, trivial⟩) ?_
 repeat' ((conv=>whnf);first|with_reducible (first|refine Lm ?_|refine Wm (by omega) ?_|refine Bn ?_|refine Fm rfl ?_)|refine Bt ?_|refine Bu ?_)
 (conv=>whnf)
 refine Lp.mk (ι := Nat) (fun i => [(1, .hold .box (DKernel.enc .imm k)), (3, .hold .one [I ((i : Nat) : Int)])]) (fun i => i ≤ k.Refuse.length ∧ allN i (fun j => decide (0 ≤ nth k.Refuse j)) = true) (fun i => k.Refuse.length - i) 0 ?_ ⟨Nat.zero_le _, rfl⟩ fun i hi => ?_
 ·repeat' (first|exact trivial|rfl|refine And.intro ?_ ?_)
 obtain ⟨hi, ai⟩ := hi
 by_cases li : i < k.Refuse.length
 ·have hx := get_nth li
  repeat' ((conv=>whnf);first|with_reducible (first|refine Lm ?_|refine Wm (by omega) ?_|refine Ix.nat (get_map hx) ?_|refine dT (by omega) (fun hq => ?_)|refine Bf.D (fun hq => ?_) (fun hq => ?_)|refine Bn ?_|refine Fm rfl ?_)|refine Bt ?_|refine Bu ?_)
  all_goals first
   | exact congrArg (fun z => [B z]) ((by symm; unfold kernelOk; rw [allN_no li (decide_eq_false (by omega))]; rfl))
   | ((conv=>whnf);refine Nx.mk (i + 1) ⟨by omega, allN_yes ai (decide_eq_true (by omega))⟩ (by omega) ?_; (repeat' (first|exact trivial|rfl|refine And.intro ?_ ?_)))
 ·obtain rfl : i = k.Refuse.length := by omega
  cases h1 : machineOk k.Machine with
  | false =>
   rw [h1] at hm
   repeat' ((conv=>whnf);first|with_reducible (first|refine Lm ?_|refine Wm (by omega) ?_|refine dF (by omega) (fun hq => ?_)|refine Bn ?_|refine Fm rfl ?_)|refine Bt ?_|refine Bu ?_|refine Cl.mk hm ?_)
   all_goals exact congrArg (fun z => [B z]) ((by unfold kernelOk; rw [h1]; simp))
  | true =>
   rw [h1] at hm
   repeat' ((conv=>whnf);first|with_reducible (first|refine Lm ?_|refine Wm (by omega) ?_|refine dF (by omega) (fun hq => ?_)|refine Bf.D (fun hq => ?_) (fun hq => ?_)|refine Bn ?_|refine Fm rfl ?_)|refine Bt ?_|refine Bu ?_|refine Cl.mk hm ?_|refine Cl.mk (l01In_ok _ 0 100000) ?_)
   all_goals exact congrArg (fun z => [B z]) ((by unfold kernelOk; rw [h1, ai]; simp only [Bool.true_and]; first | exact decide_eq_decide.2 (by omega) | (symm; exact decide_eq_false (by omega)) | (symm; exact decide_eq_true (by omega))))
theorem KernelOk_impl (k : DKernel) (hs : DKernel.sml k) : CallsA Tryz.prog 119 false [.val (some 5) (DKernel.enc .imm k)] .one [B (kernelOk k)] := by
 have hr : k.Refuse.length ≤ 1048576 := hs.2
 have hm := MachineOk_impl k.Machine hs.1
 refine fO (n := 29) [] Tryz.func119 (by kernel_rfl) rfl (by kernel_rfl) (by rfl) (.inr ⟨trivial, trivial⟩) ?_
 repeat' ((conv=>whnf);first|with_reducible (first|refine Lm ?_|refine Wm (by omega) ?_|refine Bn ?_|refine Fm rfl ?_)|refine Bt ?_|refine Bu ?_)
 (conv=>whnf)
 refine Lp.mk (ι := Nat) (fun i => [(1, .hold .box (DKernel.enc .imm k)), (6, .hold .one (rIntS .imm k.Refuse)), (7, .hold .one [I (k.Refuse.length)]), (8, .hold .one [I ((i : Nat) : Int)])]) (fun i => i ≤ k.Refuse.length ∧ allN i (fun j => decide (0 ≤ nth k.Refuse j)) = true) (fun i => k.Refuse.length - i) 0 ?_ ⟨Nat.zero_le _, rfl⟩ fun i hi => ?_
 ·repeat' (first|exact trivial|rfl|refine And.intro ?_ ?_)
 obtain ⟨hi, ai⟩ := hi
 by_cases li : i < k.Refuse.length
 ·have hx := get_nth li
  repeat' ((conv=>whnf);first|with_reducible (first|refine Lm ?_|refine Wm (by omega) ?_|refine Ix.nat (get_map hx) ?_|refine dT (by omega) (fun hq => ?_)|refine Bf.D (fun hq => ?_) (fun hq => ?_)|refine Bn ?_|refine Fm rfl ?_)|refine Bt ?_|refine Bu ?_)
  all_goals first
   | exact congrArg (fun z => [B z]) ((by symm; unfold kernelOk; rw [allN_no li (decide_eq_false (by omega))]; rfl))
   | ((conv=>whnf);refine Nx.mk (i + 1) ⟨by omega, allN_yes ai (decide_eq_true (by omega))⟩ (by omega) ?_; (repeat' (first|exact trivial|rfl|refine And.intro ?_ ?_)))
 ·obtain rfl : i = k.Refuse.length := by omega
  repeat' ((conv=>whnf);first|with_reducible (first|refine Lm ?_|refine Wm (by omega) ?_|refine dF (by omega) (fun hq => ?_)|refine Bf.D (fun hq => ?_) (fun hq => ?_)|refine Bn ?_|refine Fm rfl ?_)|refine Bt ?_|refine Bu ?_|refine Cl.mk hm ?_|refine Cl.mk (between_ok _ 0 100000) ?_)
  all_goals exact congrArg (fun z => [B z]) ((by unfold kernelOk; rw [ai]; cases machineOk k.Machine <;> simp only [Bool.true_and, Bool.false_and] <;> first | rfl | exact decide_eq_decide.2 (by omega) | (symm; exact decide_eq_false (by omega)) | (symm; exact decide_eq_true (by omega))))
/- ranges -/
theorem l19In_ok (pages : Int) (r : DRange) (hp : 0 ≤ pages ∧ pages ≤ 1048576) : CallsA Tryz.prog 202 false [.val none [I pages], .val (some 2) (DRange.enc .imm r)] .one [B (rangeIn pages r)] := by
 refine fO (n := 18) [] Tryz.func202 (by kernel_rfl) rfl (by kernel_rfl) (by rfl) (.inr ⟨trivial, trivial⟩) ?_
 repeat' ((conv=>whnf);first|with_reducible (first|refine Lm ?_|refine Wm (by omega) ?_|refine Bf.D (fun hq => ?_) (fun hq => ?_)|refine Bn ?_|refine Fm rfl ?_)|refine Bt ?_|refine Bu ?_|refine Cl.mk (l01In_ok _ 1 _) ?_|refine Cl.mk (l01In_ok _ 0 _) ?_)
 all_goals exact congrArg (fun z => [B z]) ((by unfold rangeIn; first | (symm; exact decide_eq_false (by omega)) | exact decide_eq_decide.2 (by omega)))
theorem rangeIn_ok (pages : Int) (r : DRange) (hp : 0 ≤ pages ∧ pages ≤ 1048576) : CallsA Tryz.prog 225 false [.val none [I pages], .val (some 2) (DRange.enc .imm r)] .one [B (rangeIn pages r)] := by
 refine fO (n := 18) [] Tryz.func225 (by kernel_rfl) rfl (by kernel_rfl) (by rfl) (.inr ⟨trivial, trivial⟩) ?_
 repeat' ((conv=>whnf);first|with_reducible (first|refine Lm ?_|refine Wm (by omega) ?_|refine Bf.D (fun hq => ?_) (fun hq => ?_)|refine Bn ?_|refine Fm rfl ?_)|refine Bt ?_|refine Bu ?_|refine Cl.mk (between_ok _ 1 _) ?_|refine Cl.mk (between_ok _ 0 _) ?_)
 all_goals exact congrArg (fun z => [B z]) ((by unfold rangeIn; first | (symm; exact decide_eq_false (by omega)) | exact decide_eq_decide.2 (by omega)))
/- spans -/
theorem SlotsOf_spec (k : Int) : CallsA Tryz.prog 292 false [.val none [I k]] .one [I (slots k)] := by
 by_cases hk : 0 ≤ k ∧ k ≤ 3
 ·obtain rfl | rfl | rfl | rfl : k = 0 ∨ k = 1 ∨ k = 2 ∨ k = 3 := by omega
  all_goals
   refine fO (n := 9) [] Tryz.func292 (by kernel_rfl) rfl (by kernel_rfl) (by rfl) (.inr ⟨trivial, trivial⟩) ?_
   repeat' ((conv=>whnf);first|with_reducible (first|refine Lm ?_|refine Wm (by omega) ?_|refine dT (by omega) (fun hq => ?_)|refine dF (by omega) (fun hq => ?_)|refine Bf.D (fun hq => ?_) (fun hq => ?_)|refine Bn ?_|refine Fm rfl ?_)|refine Bt ?_|refine Bu ?_|refine Cl.mk (l01In_ok _ 0 3) ?_|refine Cd.mk (by decide) ?_|refine Wr.mk rfl ?_|refine Ev.mk rfl ?_)
   exact congrArg (fun z => [I z]) (by decide)
 ·refine fO (n := 9) [] Tryz.func292 (by kernel_rfl) rfl (by kernel_rfl) (by rfl) (.inr ⟨trivial, trivial⟩) ?_
  repeat' ((conv=>whnf);first|with_reducible (first|refine Lm ?_|refine Wm (by omega) ?_|refine dT (by omega) (fun hq => ?_)|refine dF (by omega) (fun hq => ?_)|refine Bf.D (fun hq => ?_) (fun hq => ?_)|refine Bn ?_|refine Fm rfl ?_)|refine Bt ?_|refine Bu ?_|refine Cl.mk (l01In_ok _ 0 3) ?_)
  exact congrArg (fun z => [I z]) (by unfold slots; rw [if_neg (by omega), if_neg (by omega), if_neg (by omega), if_neg (by omega)])
theorem SlotsOf_impl (k : Int) : CallsA Tryz.prog 306 false [.val none [I k]] .one [I (slots k)] := by
 by_cases hk : 0 ≤ k ∧ k ≤ 3
 ·obtain rfl | rfl | rfl | rfl : k = 0 ∨ k = 1 ∨ k = 2 ∨ k = 3 := by omega
  all_goals
   refine fO (n := 9) [] Tryz.func306 (by kernel_rfl) rfl (by kernel_rfl) (by rfl) (.inr ⟨trivial, trivial⟩) ?_
   repeat' ((conv=>whnf);first|with_reducible (first|refine Lm ?_|refine Wm (by omega) ?_|refine dT (by omega) (fun hq => ?_)|refine dF (by omega) (fun hq => ?_)|refine Bf.D (fun hq => ?_) (fun hq => ?_)|refine Bn ?_|refine Fm rfl ?_)|refine Bt ?_|refine Bu ?_|refine Cl.mk (classOk_ok _) ?_|refine Cl.mk (ClassSize_impl _) ?_|refine Cd.mk (by decide) ?_|refine Wr.mk rfl ?_|refine Ev.mk rfl ?_)
   exact congrArg (fun z => [I z]) (by decide)
 ·refine fO (n := 9) [] Tryz.func306 (by kernel_rfl) rfl (by kernel_rfl) (by rfl) (.inr ⟨trivial, trivial⟩) ?_
  repeat' ((conv=>whnf);first|with_reducible (first|refine Lm ?_|refine Wm (by omega) ?_|refine dT (by omega) (fun hq => ?_)|refine dF (by omega) (fun hq => ?_)|refine Bf.D (fun hq => ?_) (fun hq => ?_)|refine Bn ?_|refine Fm rfl ?_)|refine Bt ?_|refine Bu ?_|refine Cl.mk (classOk_ok _) ?_)
  exact congrArg (fun z => [I z]) (by unfold slots; rw [if_neg (by omega), if_neg (by omega), if_neg (by omega), if_neg (by omega)])
def bmOk (k b : Int) : Bool := decide (0 ≤ k ∧ k ≤ 3 ∧ 0 ≤ b ∧ b ≤ lim k)
theorem BitmapOk_spec (k b : Int) : CallsA Tryz.prog 291 false [.val none [I (slots k)], .val none [I b]] .one [B (bmOk k b)] := by
 by_cases hk : 0 ≤ k ∧ k ≤ 3
 ·obtain rfl | rfl | rfl | rfl : k = 0 ∨ k = 1 ∨ k = 2 ∨ k = 3 := by omega
  all_goals
   first | rw [show slots 0 = 16 from rfl] | rw [show slots 1 = 8 from rfl] | rw [show slots 2 = 4 from rfl] | rw [show slots 3 = 2 from rfl]
   refine fO (n := 15) [] Tryz.func291 (by kernel_rfl) rfl (by kernel_rfl) (by rfl) (.inr ⟨trivial, trivial⟩) ?_
   repeat' ((conv=>whnf);first|with_reducible (first|refine Lm ?_|refine Wm (by omega) ?_|refine dT (by omega) (fun hq => ?_)|refine dF (by omega) (fun hq => ?_)|refine Bf.D (fun hq => ?_) (fun hq => ?_)|refine Bn ?_|refine Fm rfl ?_)|refine Bt ?_|refine Bu ?_|refine Cl.mk (l01In_ok _ 1 16) ?_|refine Cl.mk (l01In_ok _ 0 _) ?_|refine Cd.mk (by decide) ?_|refine Wr.mk (show _ = (65536 : Int) by decide) ?_|refine Wr.mk (show _ = (65535 : Int) by decide) ?_|refine Wr.mk (show _ = (256 : Int) by decide) ?_|refine Wr.mk (show _ = (255 : Int) by decide) ?_|refine Wr.mk (show _ = (16 : Int) by decide) ?_|refine Wr.mk (show _ = (15 : Int) by decide) ?_|refine Wr.mk (show _ = (4 : Int) by decide) ?_|refine Wr.mk (show _ = (8 : Int) by decide) ?_|refine Wr.mk (show _ = (2 : Int) by decide) ?_|refine Wr.mk (show _ = (3 : Int) by decide) ?_)
   all_goals exact congrArg (fun z => [B z]) ((decide_eq_decide.2 (by simp [lim])))
 ·have hz : slots k = 0 := by unfold slots; rw [if_neg (by omega), if_neg (by omega), if_neg (by omega), if_neg (by omega)]
  rw [hz]
  refine fO (n := 15) [] Tryz.func291 (by kernel_rfl) rfl (by kernel_rfl) (by rfl) (.inr ⟨trivial, trivial⟩) ?_
  repeat' ((conv=>whnf);first|with_reducible (first|refine Lm ?_|refine Wm (by omega) ?_|refine dT (by omega) (fun hq => ?_)|refine dF (by omega) (fun hq => ?_)|refine Bf.D (fun hq => ?_) (fun hq => ?_)|refine Bn ?_|refine Fm rfl ?_)|refine Bt ?_|refine Bu ?_|refine Cl.mk (l01In_ok _ 1 16) ?_)
  exact congrArg (fun z => [B z]) ((by symm; exact decide_eq_false (by omega)))
theorem BitmapOk_impl (k b : Int) : CallsA Tryz.prog 305 false [.val none [I (slots k)], .val none [I b]] .one [B (bmOk k b)] := by
 by_cases hk : 0 ≤ k ∧ k ≤ 3
 ·obtain rfl | rfl | rfl | rfl : k = 0 ∨ k = 1 ∨ k = 2 ∨ k = 3 := by omega
  all_goals
   first | rw [show slots 0 = 16 from rfl] | rw [show slots 1 = 8 from rfl] | rw [show slots 2 = 4 from rfl] | rw [show slots 3 = 2 from rfl]
   refine fO (n := 14) [] Tryz.func305 (by kernel_rfl) rfl (by kernel_rfl) (by rfl) (.inr ⟨trivial, trivial⟩) ?_
   repeat' ((conv=>whnf);first|with_reducible (first|refine Lm ?_|refine Wm (by omega) ?_|refine dT (by omega) (fun hq => ?_)|refine dF (by omega) (fun hq => ?_)|refine Bf.D (fun hq => ?_) (fun hq => ?_)|refine Bn ?_|refine Fm rfl ?_)|refine Bt ?_|refine Bu ?_|refine Cl.mk (between_ok _ 1 16) ?_|refine Cl.mk (between_ok _ 0 _) ?_|refine Cd.mk (by decide) ?_|refine Wr.mk (wrapI (by decide) (by decide)) ?_)
   all_goals exact congrArg (fun z => [B z]) ((decide_eq_decide.2 (by simp [lim, IntKind.bits])))
 ·have hz : slots k = 0 := by unfold slots; rw [if_neg (by omega), if_neg (by omega), if_neg (by omega), if_neg (by omega)]
  rw [hz]
  refine fO (n := 14) [] Tryz.func305 (by kernel_rfl) rfl (by kernel_rfl) (by rfl) (.inr ⟨trivial, trivial⟩) ?_
  repeat' ((conv=>whnf);first|with_reducible (first|refine Lm ?_|refine Wm (by omega) ?_|refine dT (by omega) (fun hq => ?_)|refine dF (by omega) (fun hq => ?_)|refine Bf.D (fun hq => ?_) (fun hq => ?_)|refine Bn ?_|refine Fm rfl ?_)|refine Bt ?_|refine Bu ?_|refine Cl.mk (between_ok _ 1 16) ?_)
  exact congrArg (fun z => [B z]) ((by symm; exact decide_eq_false (by omega)))
theorem SpanOk_spec (s : DSpan) : CallsA Tryz.prog 203 false [.val (some 3) (DSpan.enc .imm s)] .one [B (spanOk s)] := by
 refine fO (n := 14) [(1,12,[3,4,5,6,7,8,9,10,11,12,13,2])] Tryz.func203 (by kernel_rfl) rfl (by kernel_rfl) (by rfl) (.inr ⟨trivial, trivial⟩) ?_
 repeat' ((conv=>whnf);first|with_reducible (first|refine Lm ?_|refine Wm (by omega) ?_|refine Bf.D (fun hq => ?_) (fun hq => ?_)|refine Bn ?_|refine Fm rfl ?_)|refine Bt ?_|refine Bu ?_|refine Cl.mk (l01In_ok _ 0 31) ?_|refine Cl.mk (SlotsOf_spec _) ?_|refine Cl.mk (BitmapOk_spec _ _) ?_)
 all_goals exact congrArg (fun z => [B z]) ((by unfold spanOk; first | (symm; exact decide_eq_false (by omega)) | exact decide_eq_decide.2 (by omega)))
theorem SpanOk_impl (s : DSpan) : CallsA Tryz.prog 227 false [.val (some 3) (DSpan.enc .imm s)] .one [B (spanOk s)] := by
 refine fO (n := 19) [(1,17,[3,4,5,6,7,8,9,10,11,12,13,14,15,16,17,18,2])] Tryz.func227 (by kernel_rfl) rfl (by kernel_rfl) (by rfl) (.inr ⟨trivial, trivial⟩) ?_
 repeat' ((conv=>whnf);first|with_reducible (first|refine Lm ?_|refine Wm (by omega) ?_|refine Bf.D (fun hq => ?_) (fun hq => ?_)|refine Bn ?_|refine Fm rfl ?_)|refine Bt ?_|refine Bu ?_|refine Cl.mk (between_ok _ 0 31) ?_|refine Cl.mk (classOk_ok _) ?_|refine Cl.mk (SlotsOf_impl _) ?_|refine Cl.mk (BitmapOk_impl _ _) ?_)
 all_goals exact congrArg (fun z => [B z]) ((by unfold spanOk; first | (symm; exact decide_eq_false (by omega)) | exact decide_eq_decide.2 (by omega)))
end Go.Proofs.YtogajjgmcnjkbaaGreat.Ab
/- Ranges, large objects, meshable spans, plans, jobs: contracts of the functions that ask whether they are valid, the reference's and the program's. No condition. -/
namespace Go.Proofs.YtogajjgmcnjkbaaGreat.Ab
open Go.RowKit
set_option maxRecDepth 20000
set_option maxHeartbeats 4000000
section
variable {α : Type} {xs : List α} {p : α → Bool} {i : Nat} {y : α}
theorem any_yes (h : xs[i]? = some y) (hp : p y = true) : xs.any p = true := List.any_eq_true.2 ⟨y, List.mem_of_getElem? h, hp⟩
theorem any_next (h : xs[i]? = some y) (ha : (xs.take i).any p = false) (hp : p y = false) : (xs.take (i + 1)).any p = false := by
 rw [List.take_add_one, h, List.any_append, ha]; simp [hp]
theorem any_end (hi : xs.length ≤ i) (ha : (xs.take i).any p = false) : xs.any p = false := by
 rwa [List.take_of_length_le hi] at ha
theorem get_pre [Inhabited α] (h0 : 0 < i) (hi : i < xs.length) : xs[((i : Int) - 1).toNat]? = some (nth xs (i - 1)) := by
 rw [show ((i : Int) - 1).toNat = i - 1 by omega]; exact get_nth (by omega)
end
theorem rangeAt_in {pages : Int} {xs : List DRange} {i n : Nat} (ha : allN n (rangeAt pages xs) = true) (hi : i < n) : 1 ≤ (nth xs i).Len ∧ (nth xs i).Len ≤ pages ∧ 0 ≤ (nth xs i).At ∧ (nth xs i).At ≤ pages - (nth xs i).Len := by
 have := allN_at ha hi
 unfold rangeAt rangeIn at this
 simp only [Bool.and_eq_true, decide_eq_true_eq] at this
 exact this.1
theorem RangesOk_spec (pages : Int) (xs : List DRange) (hp : 0 ≤ pages ∧ pages ≤ 1048576) (hs : smlDRangeS xs) : CallsA Tryz.prog 90 false [.val none [I pages], .val none (rDRangeS .imm xs)] .one [B (rangesOk pages xs)] := by
 have hl := hs.1
 refine fO (n := 46) [(4,32,[12,13,14,15,16,17,18,19,20,21,22,23,24,25,26,27,28,29,30,31,32,33,34,35,36,37,38,39,40,41,42,43])] Tryz.func90 (by kernel_rfl) rfl (by kernel_rfl) (by rfl) (.inr ⟨trivial, trivial⟩) ?_
 repeat' ((conv=>whnf);first|with_reducible (first|refine Lm ?_|refine Wm (by omega) ?_|refine Bn ?_|refine Fm rfl ?_)|refine Bt ?_|refine Bu ?_)
 (conv=>whnf)
 refine Lp.mk (ι := Nat) (fun i => [(0, .hold .one [I (pages)]), (1, .hold .one (rDRangeS .imm xs)), (5, .hold .one [I ((i : Nat) : Int)])]) (fun i => i ≤ xs.length ∧ allN i (rangeAt pages xs) = true) (fun i => xs.length - i) 0 ?_ ⟨Nat.zero_le _, rfl⟩ fun i hi => ?_
 ·repeat' (first|exact trivial|rfl|refine And.intro ?_ ?_)
 obtain ⟨hi, ai⟩ := hi
 by_cases li : i < xs.length
 ·have hx := get_nth li
  have hb : 0 < i → 1 ≤ (nth xs (i - 1)).Len ∧ (nth xs (i - 1)).Len ≤ pages ∧ 0 ≤ (nth xs (i - 1)).At ∧ (nth xs (i - 1)).At ≤ pages - (nth xs (i - 1)).Len := fun h => rangeAt_in ai (by omega)
  cases h1 : rangeIn pages (nth xs i) with
  | false =>
   have h2 := l19In_ok pages (nth xs i) hp
   rw [h1] at h2
   repeat' ((conv=>whnf);first|with_reducible (first|refine Lm ?_|refine Wm (by omega) ?_|refine Ix.nat (get_map hx) ?_|refine dT (by omega) (fun hq => ?_)|refine Bn ?_|refine Fm rfl ?_)|refine Bt ?_|refine Bu ?_|refine Cl.mk h2 ?_)
   exact congrArg (fun z => [B z]) ((by symm; unfold rangesOk; rw [allN_no li (by unfold rangeAt; rw [h1]; rfl)]; rfl))
  | true =>
   have h2 := l19In_ok pages (nth xs i) hp
   rw [h1] at h2
   repeat' ((conv=>whnf);first|with_reducible (first|refine Lm ?_|refine Wm (by omega) ?_|refine Ix.nat (get_map hx) ?_|refine dT (by omega) (fun hq => ?_)|refine Bf.D (fun hq => ?_) (fun hq => ?_)|refine Bn ?_|refine Fm rfl ?_)|refine Bt ?_|refine Bu ?_|refine Cl.mk h2 ?_|refine Ix.mk (by omega) (get_map (get_pre (by omega) li)) ?_)
   all_goals first
    | exact congrArg (fun z => [B z]) ((by symm; unfold rangesOk; rw [allN_no li (by unfold rangeAt; rw [h1, decide_eq_false (by omega)]; rfl)]; rfl))
    | ((conv=>whnf);refine Nx.mk (i + 1) ⟨by omega, allN_yes ai (by unfold rangeAt; rw [h1, decide_eq_true (by omega)]; rfl)⟩ (by omega) ?_; (repeat' (first|exact trivial|rfl|refine And.intro ?_ ?_)))
 ·repeat' ((conv=>whnf);first|with_reducible (first|refine Lm ?_|refine Wm (by omega) ?_|refine dF (by omega) (fun hq => ?_)|refine Bn ?_|refine Fm rfl ?_)|refine Bt ?_|refine Bu ?_|refine Cl.mk (l01In_ok pages 1 32) ?_)
  obtain rfl : i = xs.length := by omega
  exact congrArg (fun z => [B z]) ((by unfold rangesOk; rw [ai]; rfl))
theorem RangesOk_impl (pages : Int) (xs : List DRange) (hp : 0 ≤ pages ∧ pages ≤ 1048576) (hs : smlDRangeS xs) : CallsA Tryz.prog 120 false [.val none [I pages], .val none (rDRangeS .imm xs)] .one [B (rangesOk pages xs)] := by
 have hl := hs.1
 refine fO (n := 43) [(4,26,[14,15,16,17,18,19,20,21,22,23,24,25,26,27,28,29,30,31,32,33,34,35,36,37,38,39])] Tryz.func120 (by kernel_rfl) rfl (by kernel_rfl) (by rfl) (.inr ⟨trivial, trivial⟩) ?_
 repeat' ((conv=>whnf);first|with_reducible (first|refine Lm ?_|refine Wm (by omega) ?_|refine Bn ?_|refine Fm rfl ?_)|refine Bt ?_|refine Bu ?_)
 (conv=>whnf)
 refine Lp.mk (ι := Nat) (fun i => [(0, .hold .one [I (pages)]), (1, .hold .one (rDRangeS .imm xs)), (7, .hold .one (rDRangeS .imm xs)), (8, .hold .one [I (xs.length)]), (9, .hold .one [I ((i : Nat) : Int)])]) (fun i => i ≤ xs.length ∧ allN i (rangeAt pages xs) = true) (fun i => xs.length - i) 0 ?_ ⟨Nat.zero_le _, rfl⟩ fun i hi => ?_
 ·repeat' (first|exact trivial|rfl|refine And.intro ?_ ?_)
 obtain ⟨hi, ai⟩ := hi
 by_cases li : i < xs.length
 ·have hx := get_nth li
  have hb : 0 < i → 1 ≤ (nth xs (i - 1)).Len ∧ (nth xs (i - 1)).Len ≤ pages ∧ 0 ≤ (nth xs (i - 1)).At ∧ (nth xs (i - 1)).At ≤ pages - (nth xs (i - 1)).Len := fun h => rangeAt_in ai (by omega)
  have h2 := rangeIn_ok pages (nth xs i) hp
  cases h1 : rangeIn pages (nth xs i) with
  | false =>
   rw [h1] at h2
   repeat' ((conv=>whnf);first|with_reducible (first|refine Lm ?_|refine Wm (by omega) ?_|refine Ix.nat (get_map hx) ?_|refine dT (by omega) (fun hq => ?_)|refine Bn ?_|refine Fm rfl ?_)|refine Bt ?_|refine Bu ?_|refine Cl.mk h2 ?_)
   exact congrArg (fun z => [B z]) ((by symm; unfold rangesOk; rw [allN_no li (by unfold rangeAt; rw [h1]; rfl)]; rfl))
  | true =>
   rw [h1] at h2
   repeat' ((conv=>whnf);first|with_reducible (first|refine Lm ?_|refine Wm (by omega) ?_|refine Ix.nat (get_map hx) ?_|refine dT (by omega) (fun hq => ?_)|refine Bf.D (fun hq => ?_) (fun hq => ?_)|refine Bn ?_|refine Fm rfl ?_)|refine Bt ?_|refine Bu ?_|refine Cl.mk h2 ?_|refine Ix.mk (by omega) (get_map (get_pre (by omega) li)) ?_)
   all_goals first
    | exact congrArg (fun z => [B z]) ((by symm; unfold rangesOk; rw [allN_no li (by unfold rangeAt; rw [h1, decide_eq_false (by omega)]; rfl)]; rfl))
    | ((conv=>whnf);refine Nx.mk (i + 1) ⟨by omega, allN_yes ai (by unfold rangeAt; rw [h1, decide_eq_true (by omega)]; rfl)⟩ (by omega) ?_; (repeat' (first|exact trivial|rfl|refine And.intro ?_ ?_)))
 ·repeat' ((conv=>whnf);first|with_reducible (first|refine Lm ?_|refine Wm (by omega) ?_|refine dF (by omega) (fun hq => ?_)|refine Bn ?_|refine Fm rfl ?_)|refine Bt ?_|refine Bu ?_|refine Cl.mk (between_ok pages 1 32) ?_)
  obtain rfl : i = xs.length := by omega
  exact congrArg (fun z => [B z]) ((by unfold rangesOk; rw [ai]; rfl))
theorem RangeHas_spec (xs : List DRange) (page : Int) (hl : xs.length ≤ 9223372036854775807) : CallsA Tryz.prog 207 false [.val none (rDRangeS .imm xs), .val none [I page]] .one [B (xs.any (rHas page))] := by
 refine fO (n := 34) [(4,22,[12,13,14,15,16,17,18,19,20,21,22,23,24,25,26,27,28,29,30,31,32,33])] Tryz.func207 (by kernel_rfl) rfl (by kernel_rfl) (by rfl) (.inr ⟨trivial, trivial⟩) ?_
 repeat' ((conv=>whnf);first|with_reducible (first|refine Lm ?_|refine Wm (by omega) ?_|refine Bn ?_|refine Fm rfl ?_)|refine Bt ?_|refine Bu ?_)
 (conv=>whnf)
 refine Lp.mk (ι := Nat) (fun i => [(0, .hold .one (rDRangeS .imm xs)), (1, .hold .one [I (page)]), (5, .hold .one [I ((i : Nat) : Int)])]) (fun i => i ≤ xs.length ∧ (xs.take i).any (rHas page) = false) (fun i => xs.length - i) (0) ?_ (⟨Nat.zero_le _, rfl⟩) fun i hi => ?_
 ·repeat' (first|exact trivial|rfl|refine And.intro ?_ ?_)
 obtain ⟨hi, ha⟩ := hi
 by_cases li : i < xs.length
 ·have hx := get_nth li
  repeat' ((conv=>whnf);first|with_reducible (first|refine Lm ?_|refine Wm (by omega) ?_|refine Ix.nat (get_map hx) ?_|refine dT (by omega) (fun hq => ?_)|refine Bf.D (fun hq => ?_) (fun hq => ?_)|refine Bn ?_|refine Fm rfl ?_)|refine Bt ?_|refine Bu ?_|refine Wr.mk rfl ?_)
  all_goals first
   | exact congrArg (fun z => [B z]) ((any_yes hx (by unfold rHas; rw [decide_eq_true (by assumption), decide_eq_true (by assumption)]; rfl)).symm)
   | ((conv=>whnf);refine Nx.mk (i + 1) ⟨by omega, any_next hx ha (by unfold rHas; first|(rw [decide_eq_false (by assumption : ¬ (nth xs i).At ≤ page)]; rfl)|(rw [decide_eq_false (by assumption : ¬ page < _)]; simp))⟩ (by omega) ?_; (repeat' (first|exact trivial|rfl|refine And.intro ?_ ?_)))
 ·repeat' ((conv=>whnf);first|with_reducible (first|refine Lm ?_|refine Wm (by omega) ?_|refine dF (by omega) (fun hq => ?_)|refine Bn ?_|refine Fm rfl ?_)|refine Bt ?_|refine Bu ?_)
  exact congrArg (fun z => [B z]) ((any_end (by omega) ha).symm)
/- large objects -/
theorem tdiv16 {z : Int} (h : 0 ≤ z) : z.tdiv 16 = z / 16 := Int.tdiv_eq_ediv_of_nonneg h
theorem PagesFor_spec (z : Int) : CallsA Tryz.prog 293 false [.val none [I z]] .one [I (pagesFor z)] := by
 refine fO (n := 10) [] Tryz.func293 (by kernel_rfl) rfl (by kernel_rfl) (by rfl) (.inr ⟨trivial, trivial⟩) ?_
 by_cases hz : 9 ≤ z ∧ z ≤ 1000
 ·repeat' ((conv=>whnf);first|with_reducible (first|refine Lm ?_|refine Wm (by omega) ?_|refine dT (by omega) (fun hq => ?_)|refine dF (by omega) (fun hq => ?_)|refine Bf.D (fun hq => ?_) (fun hq => ?_)|refine Bn ?_|refine Fm rfl ?_)|refine Bt ?_|refine Bu ?_|refine Cl.mk (l01In_ok z 9 1000) ?_|refine Cd.mk (by decide) ?_|refine Wr.mk ((congrArg _ (tdiv16 (by omega))).trans (wrapI (by omega) (by omega))) ?_)
  all_goals exact congrArg (fun z => [I z]) (by unfold pagesFor; rw [if_pos hz]; omega)
 ·repeat' ((conv=>whnf);first|with_reducible (first|refine Lm ?_|refine Wm (by omega) ?_|refine dT (by omega) (fun hq => ?_)|refine dF (by omega) (fun hq => ?_)|refine Bf.D (fun hq => ?_) (fun hq => ?_)|refine Bn ?_|refine Fm rfl ?_)|refine Bt ?_|refine Bu ?_|refine Cl.mk (l01In_ok z 9 1000) ?_)
  all_goals exact congrArg (fun z => [I z]) (by unfold pagesFor; rw [if_neg hz])
theorem PagesFor_impl (z : Int) : CallsA Tryz.prog 307 false [.val none [I z]] .one [I (pagesFor z)] := by
 refine fO (n := 10) [] Tryz.func307 (by kernel_rfl) rfl (by kernel_rfl) (by rfl) (.inr ⟨trivial, trivial⟩) ?_
 by_cases hz : 9 ≤ z ∧ z ≤ 1000
 ·repeat' ((conv=>whnf);first|with_reducible (first|refine Lm ?_|refine Wm (by omega) ?_|refine dT (by omega) (fun hq => ?_)|refine dF (by omega) (fun hq => ?_)|refine Bf.D (fun hq => ?_) (fun hq => ?_)|refine Bn ?_|refine Fm rfl ?_)|refine Bt ?_|refine Bu ?_|refine Cl.mk (between_ok z 9 1000) ?_|refine Cd.mk (by decide) ?_|refine Wr.mk ((congrArg _ (tdiv16 (by omega))).trans (wrapI (by omega) (by omega))) ?_)
  all_goals exact congrArg (fun z => [I z]) (by unfold pagesFor; rw [if_pos hz]; omega)
 ·repeat' ((conv=>whnf);first|with_reducible (first|refine Lm ?_|refine Wm (by omega) ?_|refine dT (by omega) (fun hq => ?_)|refine dF (by omega) (fun hq => ?_)|refine Bf.D (fun hq => ?_) (fun hq => ?_)|refine Bn ?_|refine Fm rfl ?_)|refine Bt ?_|refine Bu ?_|refine Cl.mk (between_ok z 9 1000) ?_)
  all_goals exact congrArg (fun z => [I z]) (by unfold pagesFor; rw [if_neg hz])
theorem LargeOk_spec (l : DLarge) : CallsA Tryz.prog 205 false [.val (some 3) (DLarge.enc .imm l)] .one [B (largeOk l)] := by
 have h1 := PagesFor_spec l.Size
 by_cases hz : 9 ≤ l.Size ∧ l.Size ≤ 1000
 ·rw [show pagesFor l.Size = (l.Size + 15) / 16 from if_pos hz] at h1
  refine fO (n := 22) [] Tryz.func205 (by kernel_rfl) rfl (by kernel_rfl) (by rfl) (.inr ⟨trivial, trivial⟩) ?_
  repeat' ((conv=>whnf);first|with_reducible (first|refine Lm ?_|refine Wm (by omega) ?_|refine Bf.D (fun hq => ?_) (fun hq => ?_)|refine Bf.E (fun hq => ?_) (fun hq => ?_)|refine Bn ?_|refine Fm rfl ?_)|refine Bt ?_|refine Bu ?_|refine Cl.mk h1 ?_|refine Cl.mk (l01In_ok _ 0 _) ?_)
  all_goals exact congrArg (fun z => [B z]) ((by unfold largeOk; first | (symm; exact decide_eq_false (by omega)) | exact decide_eq_decide.2 (by omega)))
 ·rw [show pagesFor l.Size = 0 from if_neg hz] at h1
  refine fO (n := 22) [] Tryz.func205 (by kernel_rfl) rfl (by kernel_rfl) (by rfl) (.inr ⟨trivial, trivial⟩) ?_
  repeat' ((conv=>whnf);first|with_reducible (first|refine Lm ?_|refine Wm (by omega) ?_|refine dT (by omega) (fun hq => ?_)|refine dF (by omega) (fun hq => ?_)|refine Bf.D (fun hq => ?_) (fun hq => ?_)|refine Bn ?_|refine Fm rfl ?_)|refine Bt ?_|refine Bu ?_|refine Cl.mk h1 ?_)
  all_goals exact congrArg (fun z => [B z]) ((by unfold largeOk; symm; exact decide_eq_false (by omega)))
theorem LargeOk_impl (l : DLarge) : CallsA Tryz.prog 228 false [.val (some 3) (DLarge.enc .imm l)] .one [B (largeOk l)] := by
 have h1 := PagesFor_impl l.Size
 by_cases hz : 9 ≤ l.Size ∧ l.Size ≤ 1000
 ·rw [show pagesFor l.Size = (l.Size + 15) / 16 from if_pos hz] at h1
  refine fO (n := 22) [(1,20,[3,4,5,6,7,8,9,10,11,12,13,14,15,16,17,18,19,20,21,2])] Tryz.func228 (by kernel_rfl) rfl (by kernel_rfl) (by rfl) (.inr ⟨trivial, trivial⟩) ?_
  repeat' ((conv=>whnf);first|with_reducible (first|refine Lm ?_|refine Wm (by omega) ?_|refine dT (by omega) (fun hq => ?_)|refine dF (by omega) (fun hq => ?_)|refine Bf.D (fun hq => ?_) (fun hq => ?_)|refine Bf.E (fun hq => ?_) (fun hq => ?_)|refine Bn ?_|refine Fm rfl ?_)|refine Bt ?_|refine Bu ?_|refine Cl.mk h1 ?_|refine Cl.mk (between_ok _ 9 1000) ?_|refine Cl.mk (between_ok _ 0 _) ?_)
  all_goals exact congrArg (fun z => [B z]) ((by unfold largeOk; first | (symm; exact decide_eq_false (by omega)) | exact decide_eq_decide.2 (by omega)))
 ·refine fO (n := 22) [(1,20,[3,4,5,6,7,8,9,10,11,12,13,14,15,16,17,18,19,20,21,2])] Tryz.func228 (by kernel_rfl) rfl (by kernel_rfl) (by rfl) (.inr ⟨trivial, trivial⟩) ?_
  repeat' ((conv=>whnf);first|with_reducible (first|refine Lm ?_|refine Wm (by omega) ?_|refine dT (by omega) (fun hq => ?_)|refine dF (by omega) (fun hq => ?_)|refine Bf.D (fun hq => ?_) (fun hq => ?_)|refine Bn ?_|refine Fm rfl ?_)|refine Bt ?_|refine Bu ?_|refine Cl.mk (between_ok _ 9 1000) ?_)
  all_goals exact congrArg (fun z => [B z]) ((by unfold largeOk; symm; exact decide_eq_false (by omega)))
/- meshable spans -/
theorem toNat64 {z : Int} (h : 0 ≤ z ∧ z ≤ 9223372036854775807) : (BitVec.ofInt IntKind.i64.bits z).toNat = z.toNat := by
 show (BitVec.ofInt 64 z).toNat = z.toNat
 rw [BitVec.toNat_ofInt]
 congr 1
 exact Int.emod_eq_of_lt h.1 (by show z < ((2 ^ 64 : Nat) : Int); have := h.2; norm_cast; omega)
theorem and64 {z1 z2 : Int} (h1 : 0 ≤ z1 ∧ z1 ≤ 9223372036854775807) (h2 : 0 ≤ z2 ∧ z2 ≤ 9223372036854775807) : IntKind.i64.wrap ((BitVec.ofInt IntKind.i64.bits z1 &&& BitVec.ofInt IntKind.i64.bits z2).toNat : Nat) = ((z1.toNat &&& z2.toNat : Nat) : Int) := by
 rw [BitVec.toNat_and, toNat64 h1, toNat64 h2]
 have : z1.toNat &&& z2.toNat ≤ z1.toNat := Nat.and_le_left
 exact wrapI (by omega) (by omega)
theorem lim_le (k : Int) : lim k ≤ 65535 := by
 unfold lim
 (repeat' split) <;> decide
theorem spanOk_bits {s : DSpan} (h : spanOk s = true) : 0 ≤ s.Bits ∧ s.Bits ≤ 9223372036854775807 := by
 unfold spanOk at h
 simp only [decide_eq_true_eq] at h
 have := lim_le s.Class
 omega
theorem Meshable_spec (x1 x2 : DSpan) : CallsA Tryz.prog 208 false [.val (some 3) (DSpan.enc .imm x1), .val (some 3) (DSpan.enc .imm x2)] .one [B (meshable x1 x2)] := by
 have h1 := SpanOk_spec x1
 have h2 := SpanOk_spec x2
 cases e1 : spanOk x1 <;> rw [e1] at h1 <;> cases e2 : spanOk x2 <;> rw [e2] at h2
 all_goals
  refine fO (n := 33) [] Tryz.func208 (by kernel_rfl) rfl (by kernel_rfl) (by rfl) (.inr ⟨trivial, trivial⟩) ?_
  repeat' ((conv=>whnf);first|with_reducible (first|refine Lm ?_|refine Wm (by omega) ?_|refine Bf.D (fun hq => ?_) (fun hq => ?_)|refine Bf.N (fun hq => ?_) (fun hq => ?_)|refine Bf.E (fun hq => ?_) (fun hq => ?_)|refine Bn ?_|refine Fm rfl ?_)|refine Bt ?_|refine Bu ?_|refine Cl.mk h1 ?_|refine Cl.mk h2 ?_|refine Wr.mk (and64 (spanOk_bits e1) (spanOk_bits e2)) ?_)
  all_goals exact congrArg (fun z => [B z]) ((by unfold meshable; rw [e1, e2]; first | rfl | (symm; exact decide_eq_false (by omega)) | (rw [Bool.eq_iff_iff]; simp; omega)))
theorem Meshable_impl (x1 x2 : DSpan) : CallsA Tryz.prog 232 false [.val (some 3) (DSpan.enc .imm x1), .val (some 3) (DSpan.enc .imm x2)] .one [B (meshable x1 x2)] := by
 have h1 := SpanOk_impl x1
 have h2 := SpanOk_impl x2
 cases e1 : spanOk x1 <;> rw [e1] at h1 <;> cases e2 : spanOk x2 <;> rw [e2] at h2
 all_goals
  refine fO (n := 33) [] Tryz.func232 (by kernel_rfl) rfl (by kernel_rfl) (by rfl) (.inr ⟨trivial, trivial⟩) ?_
  repeat' ((conv=>whnf);first|with_reducible (first|refine Lm ?_|refine Wm (by omega) ?_|refine Bf.D (fun hq => ?_) (fun hq => ?_)|refine Bf.N (fun hq => ?_) (fun hq => ?_)|refine Bf.E (fun hq => ?_) (fun hq => ?_)|refine Bn ?_|refine Fm rfl ?_)|refine Bt ?_|refine Bu ?_|refine Cl.mk h1 ?_|refine Cl.mk h2 ?_|refine Wr.mk (and64 (spanOk_bits e1) (spanOk_bits e2)) ?_)
  all_goals exact congrArg (fun z => [B z]) ((by unfold meshable; rw [e1, e2]; first | rfl | (symm; exact decide_eq_false (by omega)) | (rw [Bool.eq_iff_iff]; simp; omega)))
/- plans and jobs -/
theorem cellOk_ok (k : Int) : CallsA Tryz.prog 317 false [.val none [I k]] .one [B (decide (0 ≤ k ∧ k ≤ 15))] := by
 refine fO (n := 5) [] Tryz.func317 (by kernel_rfl) rfl (by kernel_rfl) (by rfl) (.inr ⟨trivial, trivial⟩) ?_
 repeat' ((conv=>whnf);first|with_reducible (first|refine Lm ?_|refine Wm (by omega) ?_|refine Bn ?_|refine Fm rfl ?_)|refine Bt ?_|refine Bu ?_|refine Cl.mk (between_ok k 0 15) ?_)
 rfl
theorem PlanOk_spec (p : DPlan) (hs : DPlan.sml p) : CallsA Tryz.prog 216 false [.val (some 3) (DPlan.enc .imm p)] .one [B (planOk p)] := by
 have hl : p.Cells.length ≤ 1048576 := hs
 refine fO (n := 51) [(4,25,[11,12,13,14,15,16,17,18,19,20,21,22,23,24,25,26,27,28,29,30,31,32,33,34,35])] Tryz.func216 (by kernel_rfl) rfl (by kernel_rfl) (by rfl) (.inr ⟨trivial, trivial⟩) ?_
 repeat' ((conv=>whnf);first|with_reducible (first|refine Lm ?_|refine Wm (by omega) ?_|refine Bn ?_|refine Fm rfl ?_)|refine Bt ?_|refine Bu ?_)
 (conv=>whnf)
 refine Lp.mk (ι := Nat) (fun i => [(1, .hold .box (DPlan.enc .imm p)), (3, .hold .one [I ((i : Nat) : Int)])]) (fun i => i ≤ p.Cells.length ∧ allN i (planAt p.Cells) = true) (fun i => p.Cells.length - i) 0 ?_ ⟨Nat.zero_le _, rfl⟩ fun i hi => ?_
 ·repeat' (first|exact trivial|rfl|refine And.intro ?_ ?_)
 obtain ⟨hi, ai⟩ := hi
 by_cases li : i < p.Cells.length
 ·have hx := get_nth li
  repeat' ((conv=>whnf);first|with_reducible (first|refine Lm ?_|refine Wm (by omega) ?_|refine Ix.nat (get_map hx) ?_|refine dT (by omega) (fun hq => ?_)|refine Bf.D (fun hq => ?_) (fun hq => ?_)|refine Bn ?_|refine Fm rfl ?_)|refine Bt ?_|refine Bu ?_|refine Cl.mk (l01In_ok _ 0 15) ?_|refine Ix.mk (by omega) (get_map (get_pre (by omega) li)) ?_)
  all_goals first
   | exact congrArg (fun z => [B z]) ((by symm; unfold planOk; rw [allN_no li (decide_eq_false (by omega))]; rfl))
   | ((conv=>whnf);refine Nx.mk (i + 1) ⟨by omega, allN_yes ai (decide_eq_true (by omega))⟩ (by omega) ?_; (repeat' (first|exact trivial|rfl|refine And.intro ?_ ?_)))
 ·obtain rfl : i = p.Cells.length := by omega
  repeat' ((conv=>whnf);first|with_reducible (first|refine Lm ?_|refine Wm (by omega) ?_|refine dF (by omega) (fun hq => ?_)|refine Bf.D (fun hq => ?_) (fun hq => ?_)|refine Bf.NB (fun hq => ?_) (fun hq => ?_)|refine Bf.N (fun hq => ?_) (fun hq => ?_)|refine Bn ?_|refine Fm rfl ?_)|refine Bt ?_|refine Bu ?_|refine Cl.mk (l01In_ok _ 0 31) ?_)
  all_goals exact congrArg (fun z => [B z]) ((by unfold planOk; rw [ai]; simp only [Bool.true_and]; first | (symm; exact decide_eq_false (by omega)) | exact decide_eq_decide.2 (by omega) | (rw [Bool.eq_iff_iff]; simp; omega)))
theorem PlanOk_impl (p : DPlan) (hs : DPlan.sml p) : CallsA Tryz.prog 242 false [.val (some 3) (DPlan.enc .imm p)] .one [B (planOk p)] := by
 have hl : p.Cells.length ≤ 1048576 := hs
 refine fO (n := 46) [] Tryz.func242 (by kernel_rfl) rfl (by kernel_rfl) (by rfl) (.inr ⟨trivial, trivial⟩) ?_
 repeat' ((conv=>whnf);first|with_reducible (first|refine Lm ?_|refine Wm (by omega) ?_|refine Bn ?_|refine Fm rfl ?_)|refine Bt ?_|refine Bu ?_)
 (conv=>whnf)
 refine Lp.mk (ι := Nat) (fun i => [(1, .hold .box (DPlan.enc .imm p)), (6, .hold .one (rIntS .imm p.Cells)), (7, .hold .one [I (p.Cells.length)]), (8, .hold .one [I ((i : Nat) : Int)])]) (fun i => i ≤ p.Cells.length ∧ allN i (planAt p.Cells) = true) (fun i => p.Cells.length - i) 0 ?_ ⟨Nat.zero_le _, rfl⟩ fun i hi => ?_
 ·repeat' (first|exact trivial|rfl|refine And.intro ?_ ?_)
 obtain ⟨hi, ai⟩ := hi
 by_cases li : i < p.Cells.length
 ·have hx := get_nth li
  repeat' ((conv=>whnf);first|with_reducible (first|refine Lm ?_|refine Wm (by omega) ?_|refine Ix.nat (get_map hx) ?_|refine dT (by omega) (fun hq => ?_)|refine Bf.D (fun hq => ?_) (fun hq => ?_)|refine Bn ?_|refine Fm rfl ?_)|refine Bt ?_|refine Bu ?_|refine Cl.mk (cellOk_ok _) ?_|refine Ix.mk (by omega) (get_map (get_pre (by omega) li)) ?_)
  all_goals first
   | exact congrArg (fun z => [B z]) ((by symm; unfold planOk; rw [allN_no li (decide_eq_false (by omega))]; rfl))
   | ((conv=>whnf);refine Nx.mk (i + 1) ⟨by omega, allN_yes ai (decide_eq_true (by omega))⟩ (by omega) ?_; (repeat' (first|exact trivial|rfl|refine And.intro ?_ ?_)))
 ·obtain rfl : i = p.Cells.length := by omega
  repeat' ((conv=>whnf);first|with_reducible (first|refine Lm ?_|refine Wm (by omega) ?_|refine dF (by omega) (fun hq => ?_)|refine Bf.D (fun hq => ?_) (fun hq => ?_)|refine Bf.NB (fun hq => ?_) (fun hq => ?_)|refine Bf.N (fun hq => ?_) (fun hq => ?_)|refine Bn ?_|refine Fm rfl ?_)|refine Bt ?_|refine Bu ?_|refine Cl.mk (between_ok _ 0 31) ?_)
  all_goals exact congrArg (fun z => [B z]) ((by unfold planOk; rw [ai]; simp only [Bool.true_and]; first | (symm; exact decide_eq_false (by omega)) | exact decide_eq_decide.2 (by omega) | (rw [Bool.eq_iff_iff]; simp; omega)))
end Go.Proofs.YtogajjgmcnjkbaaGreat.Ab
/- Valid layouts: the contracts of LayoutOk, the reference's and the program's. No condition. -/
namespace Go.Proofs.YtogajjgmcnjkbaaGreat.Ab
open Go.RowKit
set_option maxRecDepth 20000
set_option maxHeartbeats 4000000
theorem JobOk_spec (j : DJob) (hs : DJob.sml j) : CallsA Tryz.prog 100 false [.val (some 5) (DJob.enc .imm j)] .one [B (jobOk j)] := by
 have hl : j.Plan.Cells.length ≤ 1048576 := hs
 have h1 := PlanOk_spec j.Plan hs
 cases e1 : planOk j.Plan <;> rw [e1] at h1
 all_goals
  refine fO (n := 20) [] Tryz.func100 (by kernel_rfl) rfl (by kernel_rfl) (by rfl) (.inr ⟨trivial, trivial⟩) ?_
  repeat' ((conv=>whnf);first|with_reducible (first|refine Lm ?_|refine Wm (by omega) ?_|refine Bf.D (fun hq => ?_) (fun hq => ?_)|refine Bn ?_|refine Fm rfl ?_)|refine Bt ?_|refine Bu ?_|refine Cl.mk h1 ?_|refine Cl.mk (l01In_ok _ 0 5) ?_|refine Cl.mk (l01In_ok _ 0 _) ?_)
  all_goals exact congrArg (fun z => [B z]) ((by unfold jobOk; rw [e1]; first | rfl | (symm; exact decide_eq_false (by omega)) | (rw [Bool.eq_iff_iff]; simp; omega)))
theorem JobOk_impl (j : DJob) (hs : DJob.sml j) : CallsA Tryz.prog 129 false [.val (some 5) (DJob.enc .imm j)] .one [B (jobOk j)] := by
 have hl : j.Plan.Cells.length ≤ 1048576 := hs
 have h1 := PlanOk_impl j.Plan hs
 cases e1 : planOk j.Plan <;> rw [e1] at h1
 all_goals
  refine fO (n := 20) [] Tryz.func129 (by kernel_rfl) rfl (by kernel_rfl) (by rfl) (.inr ⟨trivial, trivial⟩) ?_
  repeat' ((conv=>whnf);first|with_reducible (first|refine Lm ?_|refine Wm (by omega) ?_|refine Bf.D (fun hq => ?_) (fun hq => ?_)|refine Bn ?_|refine Fm rfl ?_)|refine Bt ?_|refine Bu ?_|refine Cl.mk h1 ?_|refine Cl.mk (between_ok _ 0 5) ?_|refine Cl.mk (between_ok _ 0 _) ?_)
  all_goals exact congrArg (fun z => [B z]) ((by unfold jobOk; rw [e1]; first | rfl | (symm; exact decide_eq_false (by omega)) | (rw [Bool.eq_iff_iff]; simp; omega)))
/- layouts -/
theorem lpgs_succ (l : DLarge) (k : Nat) : lpgs l (k + 1) = lpgs l k ++ [l.Page + (k : Nat)] := by
 unfold lpgs; rw [List.range_succ, List.map_append]; rfl
theorem lpgs_len (l : DLarge) (k : Nat) : (lpgs l k).length = k := by unfold lpgs; simp
theorem lpgs_pre (l : DLarge) {k n : Nat} (h : k ≤ n) : lpgs l k <+: lpgs l n := by
 induction n with
 | zero =>
  obtain rfl : k = 0 := by omega
  exact List.prefix_refl _
 | succ n ih =>
  rcases Nat.lt_or_ge n k with h1 | h1
  ·obtain rfl : k = n + 1 := by omega
   exact List.prefix_refl _
  ·rw [lpgs_succ]; exact (ih h1).trans (List.prefix_append ..)
theorem pgs_take (sp : List DSpan) {la : List DLarge} {i : Nat} {l : DLarge} (h : la[i]? = some l) : pgs sp (la.take (i + 1)) = pgs sp (la.take i) ++ lpgs l l.Pages.toNat := by
 unfold pgs; rw [List.take_add_one, h, List.flatMap_append]; simp
theorem pgs_pre (sp : List DSpan) (la : List DLarge) (i : Nat) : pgs sp (la.take i) <+: pgs sp la := by
 unfold pgs
 refine (List.prefix_append_right_inj _).2 ?_
 conv => rhs; rw [← List.take_append_drop i la, List.flatMap_append]
 exact List.prefix_append ..
theorem no_dup {S all : List Int} {p : Int} (h : (S ++ [p]) <+: all) (hp : p ∈ S) : decide all.Nodup = false := by
 refine decide_eq_false fun hn => ?_
 have h1 := hn.sublist h.sublist
 rw [List.nodup_append] at h1
 exact h1.2.2 p hp p (by simp) rfl
theorem nodup_snoc {S : List Int} {p : Int} (h : S.Nodup) (hp : p ∉ S) : (S ++ [p]).Nodup := by
 rw [List.nodup_append]
 exact ⟨h, by simp, fun x hx y hy e => by simp at hy; subst hy; subst e; exact hp hx⟩
theorem span_pre {sp : List DSpan} {la : List DLarge} {i : Nat} {s : DSpan} (h : sp[i]? = some s) : ((sp.take i).map (·.Page) ++ [s.Page]) <+: pgs sp la := by
 have h1 : (sp.take i).map (·.Page) ++ [s.Page] = (sp.take (i + 1)).map (·.Page) := by rw [List.take_add_one, h]; simp
 rw [h1]
 refine List.IsPrefix.trans ?_ (List.prefix_append ..)
 rw [List.map_take]
 exact List.take_prefix ..
theorem large_pre {sp : List DSpan} {la : List DLarge} {i k : Nat} {l : DLarge} (h : la[i]? = some l) (hk : k < l.Pages.toNat) : (pgs sp (la.take i) ++ lpgs l k ++ [l.Page + (k : Nat)]) <+: pgs sp la := by
 refine List.IsPrefix.trans ?_ (pgs_pre sp la (i + 1))
 rw [pgs_take sp h, List.append_assoc, ← lpgs_succ]
 exact (List.prefix_append_right_inj _).2 (lpgs_pre l hk)
theorem layoutOk_span {sp : List DSpan} {la : List DLarge} {i : Nat} {s : DSpan} (h : sp[i]? = some s) (hs : spanOk s = false) : layoutOk sp la = false := by
 unfold layoutOk; rw [all_no h hs]; rfl
theorem layoutOk_large {sp : List DSpan} {la : List DLarge} {i : Nat} {l : DLarge} (h : la[i]? = some l) (hs : largeOk l = false) : layoutOk sp la = false := by
 unfold layoutOk; rw [all_no h hs]; simp
theorem layoutOk_dup {sp : List DSpan} {la : List DLarge} {S : List Int} {p : Int} (h : (S ++ [p]) <+: pgs sp la) (hp : p ∈ S) : layoutOk sp la = false := by
 unfold layoutOk; rw [no_dup h hp]; simp
theorem layoutOk_yes {sp : List DSpan} {la : List DLarge} (h1 : sp.all spanOk = true) (h2 : la.all largeOk = true) (h3 : (pgs sp la).Nodup) : layoutOk sp la = true := by
 unfold layoutOk; rw [h1, h2, decide_eq_true h3]; rfl
theorem largeOk_pages {l : DLarge} (h : largeOk l = true) : 1 ≤ l.Pages ∧ l.Pages ≤ 63 ∧ 0 ≤ l.Page ∧ l.Page ≤ 31 := by
 unfold largeOk at h; simp only [decide_eq_true_eq] at h; omega
theorem LayoutOk_spec (sp : List DSpan) (la : List DLarge) (hs1 : smlDSpanS sp) (hs2 : smlDLargeS la) : CallsA Tryz.prog 91 false [.val none (rDSpanS .imm sp), .val none (rDLargeS .imm la)] .one [B (layoutOk sp la)] := by
 have hl1 := hs1.1
 have hl2 := hs2.1
 refine fO (n := 79) [] Tryz.func91 (by kernel_rfl) rfl (by kernel_rfl) (by rfl) (.inr ⟨trivial, trivial⟩) ?_
 repeat' ((conv=>whnf);first|with_reducible (first|refine Lm ?_|refine Wm (by omega) ?_|refine Bn ?_|refine Fm rfl ?_)|refine Bt ?_|refine Bu ?_)
 (conv=>whnf)
 refine Lp.mk (ι := Nat × List Int) (fun i => [(0, .hold .one (rDSpanS .imm sp)), (1, .hold .one (rDLargeS .imm la)), (5, .hold .one (rIntS .own i.2)), (6, .hold .one [I ((i.1 : Nat) : Int)])]) (fun i => i.1 ≤ sp.length ∧ i.2 = (sp.take i.1).map (·.Page) ∧ (sp.take i.1).all spanOk = true ∧ i.2.Nodup) (fun i => sp.length - i.1) ((0, [])) ?_ (⟨Nat.zero_le _, rfl, rfl, List.nodup_nil⟩) fun i hi => ?_
 ·repeat' (first|exact trivial|rfl|refine And.intro ?_ ?_)
 obtain ⟨i, S⟩ := i
 obtain ⟨hi, hS, hok, hnd⟩ := hi
 simp only at hi hS hok hnd ⊢
 have hSl : S.length = i := by rw [hS, List.length_map, List.length_take]; omega
 by_cases li : i < sp.length
 ·have hx := get_nth li
  have h1 := SpanOk_spec (nth sp i)
  cases e1 : spanOk (nth sp i) <;> rw [e1] at h1
  ·repeat' ((conv=>whnf);first|with_reducible (first|refine Lm ?_|refine Wm (by omega) ?_|refine Ix.nat (get_map hx) ?_|refine dT (by omega) (fun hq => ?_)|refine Bn ?_|refine Fm rfl ?_)|refine Bt ?_|refine Bu ?_|refine Cl.mk h1 ?_)
   exact congrArg (fun z => [B z]) ((layoutOk_span hx e1).symm)
  ·repeat' ((conv=>whnf);first|with_reducible (first|refine Lm ?_|refine Wm (by omega) ?_|refine Ix.nat (get_map hx) ?_|refine dT (by omega) (fun hq => ?_)|refine Bf.D (fun hq => ?_) (fun hq => ?_)|refine Bn ?_|refine Fm rfl ?_)|refine Bt ?_|refine Bu ?_|refine Cl.mk h1 ?_|refine Cl.eq (l08Has_ok S _ (by omega)) ⟨⟨rfl, rIntS_fz _⟩, ⟨rfl, rfl⟩, trivial⟩ ?_|refine Ap.mk rowI_one (fun r hr => by rw [List.mem_singleton.1 hr]; rfl) (by simp [noOwn, isOwn]) (by simp; omega) (by simp only [List.length_map]; exact mkB (by simp; omega) (by decide)) rfl ?_)
   all_goals first
    | exact congrArg (fun z => [B z]) ((layoutOk_dup (S := S) (by rw [hS]; exact span_pre hx) (by assumption)).symm)
    | ((conv=>whnf)
       refine Nx.mk (i + 1, S ++ [(nth sp i).Page]) ⟨(by simp only; omega), (by simp only; rw [hS, List.take_add_one, hx]; simp), (all_yes hx hok e1), nodup_snoc hnd (by assumption)⟩ (by simp only; omega) ?_
       (repeat' (first|exact trivial|rfl|exact And.intro rfl (And.intro (congrArg (C.s Own.own) (by simp [rI])) trivial)|refine And.intro ?_ ?_)))
 ·obtain rfl : i = sp.length := by omega
  rw [List.take_length] at hok hS
  repeat' ((conv=>whnf);first|with_reducible (first|refine Lm ?_|refine Wm (by omega) ?_|refine dF (by omega) (fun hq => ?_)|refine Bn ?_|refine Fm rfl ?_)|refine Bt ?_|refine Bu ?_)
  (conv=>whnf)
  refine Lp.mk (ι := Nat × List Int) (fun i => [(1, .hold .one (rDLargeS .imm la)), (5, .hold .one (rIntS .own i.2)), (7, .hold .one [I ((i.1 : Nat) : Int)])]) (fun i => i.1 ≤ la.length ∧ i.2 = pgs sp (la.take i.1) ∧ (la.take i.1).all largeOk = true ∧ i.2.Nodup ∧ i.2.length ≤ 1048576 + 64 * i.1) (fun i => la.length - i.1) ((0, S)) ?_ (⟨Nat.zero_le _, by rw [hS]; unfold pgs; simp, rfl, hnd, by simp only; omega⟩) fun i hi => ?_
  ·repeat' (first|exact trivial|rfl|refine And.intro ?_ ?_)
  obtain ⟨i, S2⟩ := i
  obtain ⟨hi2, hS2, hok2, hnd2, hb2⟩ := hi
  simp only at hi2 hS2 hok2 hnd2 hb2 ⊢
  by_cases li : i < la.length
  ·have hx := get_nth li
   have h1 := LargeOk_spec (nth la i)
   cases e1 : largeOk (nth la i) <;> rw [e1] at h1
   ·repeat' ((conv=>whnf);first|with_reducible (first|refine Lm ?_|refine Wm (by omega) ?_|refine Ix.nat (get_map hx) ?_|refine dT (by omega) (fun hq => ?_)|refine Bn ?_|refine Fm rfl ?_)|refine Bt ?_|refine Bu ?_|refine Cl.mk h1 ?_)
    exact congrArg (fun z => [B z]) ((layoutOk_large hx e1).symm)
   ·have hpg := largeOk_pages e1
    repeat' ((conv=>whnf);first|with_reducible (first|refine Lm ?_|refine Wm (by omega) ?_|refine Ix.nat (get_map hx) ?_|refine dT (by omega) (fun hq => ?_)|refine Bn ?_|refine Fm rfl ?_)|refine Bt ?_|refine Bu ?_|refine Cl.mk h1 ?_)
    (conv=>whnf)
    refine Lp.mk (ι := Nat × List Int) (fun k => [(1, .hold .one (rDLargeS .imm la)), (5, .hold .one (rIntS .own k.2)), (7, .hold .one [I ((i : Nat) : Int)]), (8, .hold .one [I ((k.1 : Nat) : Int)])]) (fun k => k.1 ≤ (nth la i).Pages.toNat ∧ k.2 = S2 ++ lpgs (nth la i) k.1 ∧ k.2.Nodup) (fun k => (nth la i).Pages.toNat - k.1) ((0, S2)) ?_ (⟨Nat.zero_le _, by simp [lpgs], hnd2⟩) fun k hk => ?_
    ·repeat' (first|exact trivial|rfl|refine And.intro ?_ ?_)
    obtain ⟨k, S3⟩ := k
    obtain ⟨hk, hS3, hnd3⟩ := hk
    simp only at hk hS3 hnd3 ⊢
    have hl3 : S3.length = S2.length + k := by rw [hS3, List.length_append, lpgs_len]
    by_cases lk : k < (nth la i).Pages.toNat
    ·repeat' ((conv=>whnf);first|with_reducible (first|refine Lm ?_|refine Wm (by omega) ?_|refine Ix.nat (get_map hx) ?_|refine dT (by omega) (fun hq => ?_)|refine Bf.D (fun hq => ?_) (fun hq => ?_)|refine Bn ?_|refine Fm rfl ?_)|refine Bt ?_|refine Bu ?_|refine Cl.eq (l08Has_ok S3 _ (by omega)) ⟨⟨rfl, rIntS_fz _⟩, ⟨rfl, rfl⟩, trivial⟩ ?_|refine Ap.mk rowI_one (fun r hr => by rw [List.mem_singleton.1 hr]; rfl) (by simp [noOwn, isOwn]) (by simp; omega) (by show _ * 8 ≤ _; simp; omega) rfl ?_)
     all_goals first
      | exact congrArg (fun z => [B z]) ((layoutOk_dup (S := S3) (by rw [hS3, hS2]; exact large_pre hx lk) (by assumption)).symm)
      | ((conv=>whnf)
         refine Nx.mk (k + 1, S3 ++ [(nth la i).Page + (k : Nat)]) ⟨(by simp only; omega), (by simp only; rw [hS3, lpgs_succ, List.append_assoc]), nodup_snoc hnd3 (by assumption)⟩ (by simp only; omega) ?_
         (repeat' (first|exact trivial|rfl|exact And.intro rfl (And.intro (congrArg (C.s Own.own) (by simp [rI])) trivial)|refine And.intro ?_ ?_)))
    ·obtain rfl : k = (nth la i).Pages.toNat := by omega
     repeat' ((conv=>whnf);first|with_reducible (first|refine Lm ?_|refine Wm (by omega) ?_|refine Ix.nat (get_map hx) ?_|refine dF (by omega) (fun hq => ?_)|refine Bn ?_|refine Fm rfl ?_)|refine Bt ?_|refine Bu ?_)
     ((conv=>whnf);refine Nx.mk (i + 1, S3) ⟨(by simp only; omega), (by simp only; rw [hS3, hS2, ← pgs_take sp hx]), (all_yes hx hok2 e1), hnd3, (by simp only; omega)⟩ (by simp only; omega) ?_; (repeat' (first|exact trivial|rfl|refine And.intro ?_ ?_)))
  ·obtain rfl : i = la.length := by omega
   rw [List.take_length] at hok2 hS2
   repeat' ((conv=>whnf);first|with_reducible (first|refine Lm ?_|refine Wm (by omega) ?_|refine dF (by omega) (fun hq => ?_)|refine Bn ?_|refine Fm rfl ?_)|refine Bt ?_|refine Bu ?_)
   exact congrArg (fun z => [B z]) ((layoutOk_yes hok hok2 (by rw [← hS2]; exact hnd2)).symm)
/-- A page, added. -/
def ins (S : List Int) (p : Int) : List Int := if p ∈ S then S else S ++ [p]
theorem mput_in {p : Int} : ∀ {S : List Int}, p ∈ S → mput (seenM S) p (.bool true) = seenM S
 | x :: S, h => by
  simp only [seenM, List.map_cons, mput]
  by_cases hx : x = p
  ·rw [if_pos hx, hx]
  ·rw [if_neg hx]
   have := mput_in (S := S) ((List.mem_cons.1 h).resolve_left fun e => hx e.symm)
   simp only [seenM] at this
   rw [this]
theorem mput_ins (S : List Int) (p : Int) : seenM (ins S p) = mput (seenM S) p (.bool true) := by
 unfold ins
 split
 ·rw [mput_in (by assumption)]
 ·rw [mput_seen (by assumption)]
theorem add_ok (S : List Int) (p : Int) : CallsM Tryz.prog 226 false [.val none [I p], .ptr [.m (seenM S)]] [.val none [I p], .ptr [.m (seenM (ins S p))]] .one [B (decide (p ∉ S))] := by
 refine fnMOk (n := 12) (mo := []) (tb := []) [(0, 0), (0, 0)] Tryz.func226 (by kernel_rfl) rfl (by kernel_rfl) (by rfl) (by rfl) (.inr ⟨trivial, trivial⟩) fun u q => ?_
 repeat' ((conv=>whnf);first|with_reducible (first|refine Lm ?_|refine Wm (by omega) ?_|refine Bn ?_|refine Fm rfl ?_)|refine Bt ?_|refine Bu ?_|refine Ml.mk (mlook_seen p S) ?_|refine Mu.mk (mput_ins S p) ?_)
 refine FinM.mk rfl ?_ ?_
 ·exact congrArg (fun z => [B z]) (by simp)
 ·repeat' (first|exact trivial|rfl|refine And.intro ?_ ?_)
theorem LayoutOk_impl (sp : List DSpan) (la : List DLarge) (hs1 : smlDSpanS sp) (hs2 : smlDLargeS la) : CallsA Tryz.prog 121 false [.val none (rDSpanS .imm sp), .val none (rDLargeS .imm la)] .one [B (layoutOk sp la)] := by
 have hl1 := hs1.1
 have hl2 := hs2.1
 refine fnOk (n := 54) (mo := [(226, [0, 2])]) (tb := []) Tryz.func121 (by kernel_rfl) rfl (by kernel_rfl) (by rfl) (.inr ⟨trivial, trivial⟩) ?_
 repeat' ((conv=>whnf);first|with_reducible (first|refine Lm ?_|refine Wm (by omega) ?_|refine Bn ?_|refine Fm rfl ?_)|refine Bt ?_|refine Bu ?_)
 (conv=>whnf)
 refine Lp.mk (ι := Nat × List Int) (fun i => [(1, .hold .one (rDLargeS .imm la)), (5, .hold .box [.m (seenM i.2)]), (6, .fn 226 [5]), (14, .hold .one (rDSpanS .imm sp)), (15, .hold .one [I (sp.length)]), (16, .hold .one [I ((i.1 : Nat) : Int)])]) (fun i => i.1 ≤ sp.length ∧ i.2 = (sp.take i.1).map (·.Page) ∧ (sp.take i.1).all spanOk = true ∧ i.2.Nodup) (fun i => sp.length - i.1) ((0, [])) ?_ (⟨Nat.zero_le _, rfl, rfl, List.nodup_nil⟩) fun i hi => ?_
 ·repeat' (first|exact trivial|rfl|refine And.intro ?_ ?_)
 obtain ⟨i, S⟩ := i
 obtain ⟨hi, hS, hok, hnd⟩ := hi
 simp only at hi hS hok hnd ⊢
 by_cases li : i < sp.length
 ·have hx := get_nth li
  have h1 := SpanOk_impl (nth sp i)
  cases e1 : spanOk (nth sp i) <;> rw [e1] at h1
  ·repeat' ((conv=>whnf);first|with_reducible (first|refine Lm ?_|refine Wm (by omega) ?_|refine Ix.nat (get_map hx) ?_|refine dT (by omega) (fun hq => ?_)|refine Bn ?_|refine Fm rfl ?_)|refine Bt ?_|refine Bu ?_|refine Cl.mk h1 ?_)
   exact congrArg (fun z => [B z]) ((layoutOk_span hx e1).symm)
  ·repeat' ((conv=>whnf);first|with_reducible (first|refine Lm ?_|refine Wm (by omega) ?_|refine Ix.nat (get_map hx) ?_|refine dT (by omega) (fun hq => ?_)|refine Bf.D (fun hq => ?_) (fun hq => ?_)|refine Bn ?_|refine Fm rfl ?_)|refine Bt ?_|refine Bu ?_|refine Cl.mk h1 ?_|refine ClM.mk (add_ok S _) (.inl rfl) ?_)
   all_goals first
    | exact congrArg (fun z => [B z]) ((layoutOk_dup (S := S) (by rw [hS]; exact span_pre hx) (by grind)).symm)
    |(have hnin : (nth sp i).Page ∉ S := by assumption
      (conv=>whnf)
      refine Nx.mk (i + 1, ins S (nth sp i).Page) ⟨(by simp only; omega), (by simp only; unfold ins; rw [if_neg hnin, hS, List.take_add_one, hx]; simp), (all_yes hx hok e1), (by simp only; unfold ins; rw [if_neg hnin]; exact nodup_snoc hnd hnin)⟩ (by simp only; omega) ?_
      (repeat' (first|exact trivial|rfl|refine And.intro ?_ ?_)))
 ·obtain rfl : i = sp.length := by omega
  rw [List.take_length] at hok hS
  repeat' ((conv=>whnf);first|with_reducible (first|refine Lm ?_|refine Wm (by omega) ?_|refine dF (by omega) (fun hq => ?_)|refine Bn ?_|refine Fm rfl ?_)|refine Bt ?_|refine Bu ?_)
  (conv=>whnf)
  refine Lp.mk (ι := Nat × List Int) (fun i => [(5, .hold .box [.m (seenM i.2)]), (6, .fn 226 [5]), (31, .hold .one (rDLargeS .imm la)), (32, .hold .one [I (la.length)]), (33, .hold .one [I ((i.1 : Nat) : Int)])]) (fun i => i.1 ≤ la.length ∧ i.2 = pgs sp (la.take i.1) ∧ (la.take i.1).all largeOk = true ∧ i.2.Nodup) (fun i => la.length - i.1) ((0, S)) ?_ (⟨Nat.zero_le _, by rw [hS]; unfold pgs; simp, rfl, hnd⟩) fun i hi => ?_
  ·repeat' (first|exact trivial|rfl|refine And.intro ?_ ?_)
  obtain ⟨i, S2⟩ := i
  obtain ⟨hi2, hS2, hok2, hnd2⟩ := hi
  simp only at hi2 hS2 hok2 hnd2 ⊢
  by_cases li : i < la.length
  ·have hx := get_nth li
   have h1 := LargeOk_impl (nth la i)
   cases e1 : largeOk (nth la i) <;> rw [e1] at h1
   ·repeat' ((conv=>whnf);first|with_reducible (first|refine Lm ?_|refine Wm (by omega) ?_|refine Ix.nat (get_map hx) ?_|refine dT (by omega) (fun hq => ?_)|refine Bn ?_|refine Fm rfl ?_)|refine Bt ?_|refine Bu ?_|refine Cl.mk h1 ?_)
    exact congrArg (fun z => [B z]) ((layoutOk_large hx e1).symm)
   ·have hpg := largeOk_pages e1
    repeat' ((conv=>whnf);first|with_reducible (first|refine Lm ?_|refine Wm (by omega) ?_|refine Ix.nat (get_map hx) ?_|refine dT (by omega) (fun hq => ?_)|refine Bn ?_|refine Fm rfl ?_)|refine Bt ?_|refine Bu ?_|refine Cl.mk h1 ?_)
    (conv=>whnf)
    refine Lp.mk (ι := Nat × List Int) (fun k => [(5, .hold .box [.m (seenM k.2)]), (6, .fn 226 [5]), (10, .hold .box (DLarge.enc .imm (nth la i))), (11, .hold .one [I ((k.1 : Nat) : Int)]), (31, .hold .one (rDLargeS .imm la)), (32, .hold .one [I (la.length)]), (33, .hold .one [I ((i : Nat) : Int)])]) (fun k => k.1 ≤ (nth la i).Pages.toNat ∧ k.2 = S2 ++ lpgs (nth la i) k.1 ∧ k.2.Nodup) (fun k => (nth la i).Pages.toNat - k.1) ((0, S2)) ?_ (⟨Nat.zero_le _, by simp [lpgs], hnd2⟩) fun k hk => ?_
    ·repeat' (first|exact trivial|rfl|refine And.intro ?_ ?_)
    obtain ⟨k, S3⟩ := k
    obtain ⟨hk, hS3, hnd3⟩ := hk
    simp only at hk hS3 hnd3 ⊢
    by_cases lk : k < (nth la i).Pages.toNat
    ·repeat' ((conv=>whnf);first|with_reducible (first|refine Lm ?_|refine Wm (by omega) ?_|refine dT (by omega) (fun hq => ?_)|refine Bf.D (fun hq => ?_) (fun hq => ?_)|refine Bn ?_|refine Fm rfl ?_)|refine Bt ?_|refine Bu ?_|refine ClM.mk (add_ok S3 _) (.inl rfl) ?_)
     all_goals first
      | exact congrArg (fun z => [B z]) ((layoutOk_dup (S := S3) (by rw [hS3, hS2]; exact large_pre hx lk) (by grind)).symm)
      |(have hnin : (nth la i).Page + (k : Nat) ∉ S3 := by assumption
        (conv=>whnf)
        refine Nx.mk (k + 1, ins S3 ((nth la i).Page + (k : Nat))) ⟨(by simp only; omega), (by simp only; unfold ins; rw [if_neg hnin, hS3, lpgs_succ, List.append_assoc]), (by simp only; unfold ins; rw [if_neg hnin]; exact nodup_snoc hnd3 hnin)⟩ (by simp only; omega) ?_
        (repeat' (first|exact trivial|rfl|refine And.intro ?_ ?_)))
    ·obtain rfl : k = (nth la i).Pages.toNat := by omega
     repeat' ((conv=>whnf);first|with_reducible (first|refine Lm ?_|refine Wm (by omega) ?_|refine dF (by omega) (fun hq => ?_)|refine Bn ?_|refine Fm rfl ?_)|refine Bt ?_|refine Bu ?_)
     ((conv=>whnf);refine Nx.mk (i + 1, S3) ⟨(by simp only; omega), (by simp only; rw [hS3, hS2, ← pgs_take sp hx]), (all_yes hx hok2 e1), hnd3⟩ (by simp only; omega) ?_; (repeat' (first|exact trivial|rfl|refine And.intro ?_ ?_)))
  ·obtain rfl : i = la.length := by omega
   rw [List.take_length] at hok2 hS2
   repeat' ((conv=>whnf);first|with_reducible (first|refine Lm ?_|refine Wm (by omega) ?_|refine dF (by omega) (fun hq => ?_)|refine Bn ?_|refine Fm rfl ?_)|refine Bt ?_|refine Bu ?_)
   exact congrArg (fun z => [B z]) ((layoutOk_yes hok hok2 (by rw [← hS2]; exact hnd2)).symm)
end Go.Proofs.YtogajjgmcnjkbaaGreat.Ab
