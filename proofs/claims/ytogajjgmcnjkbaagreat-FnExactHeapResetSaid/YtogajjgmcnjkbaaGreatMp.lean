/- New heaps, and a heap begun anew, as plain functions. No condition. -/
import Derived.Test.YtogajjgmcnjkbaaGreatMk
import Derived.WalkKit
import Derived.Lib.SliceRun

namespace Go.Proofs.YtogajjgmcnjkbaaGreat.Ab
def newFrames (n : Nat) : DFrames := ⟨List.replicate n (List.replicate 16 0), List.replicate n false⟩
def newTable (n : Nat) : DTable := ⟨List.replicate n ⟨0, 0⟩⟩
def newKernel (p f : Nat) (rf : List Int) : DKernel := ⟨⟨newFrames f, newTable p⟩, 0, rf⟩
def newCache : DCache := ⟨List.replicate 4 []⟩
def newMail (n : Nat) : DMail := ⟨List.replicate n [], List.replicate n []⟩
def newHeap (p f t : Nat) (lim : Int) (rf : List Int) : DHeap := ⟨newKernel p f rf, [⟨0, p⟩], [], [], [], List.replicate t newCache, newMail t, ⟨16, []⟩, 0, 0, lim, 1, false, ⟨⟨0, 0, []⟩, 0, 0⟩⟩
theorem nth_replicate {α : Type} [Inhabited α] {n j : Nat} {y : α} (hj : j < n) : nth (List.replicate n y) j = y := nth_of (by rw [List.getElem?_replicate, if_pos hj])
theorem newPages (n : Nat) (f : Int) : pagesOn (newTable n) f = [] := by
 unfold pagesOn pgsOn
 rw [List.map_eq_nil_iff, List.filter_eq_nil_iff]
 intro i hi
 have hi' : i < n := by simpa [newTable] using hi
 unfold onF
 rw [show nth (newTable n).Entries i = ⟨0, 0⟩ from nth_replicate hi']
 simp
theorem newKernel_ok {p f : Nat} (hp : 1 ≤ p ∧ p ≤ 32) (hf : 1 ≤ f ∧ f ≤ 32) : kernelOk (newKernel p f []) = true := by
 rw [kernelOk_iff]
 refine ⟨fun j hj => by simp [newKernel] at hj, framesOk_iff.2 ⟨by simp [newKernel, newFrames]; omega, by simp [newKernel, newFrames]; omega, by simp [newKernel, newFrames], fun j hj => ?_⟩, tableOk_iff.2 ⟨fun j hj => ?_, by simp [newKernel, newTable]; omega, by simp [newKernel, newTable]; omega⟩, fun j hj => ?_, by simp [newKernel], by simp [newKernel], by simp [newKernel]⟩
 ·have hj' : j < f := by simpa [newKernel, newFrames] using hj
  rw [show nth (newKernel p f []).Machine.Frames.Cells j = List.replicate 16 0 from nth_replicate hj', show nth (newKernel p f []).Machine.Frames.Used j = false from nth_replicate hj']
  decide
 ·have hj' : j < p := by simpa [newKernel, newTable] using hj
  rw [show nth (newKernel p f []).Machine.Table.Entries j = ⟨0, 0⟩ from nth_replicate hj']
  unfold entOk
  rw [decide_eq_true_eq]
  exact ⟨by decide, by decide, fun _ => rfl, fun h => absurd rfl h⟩
 ·have hj' : j < f := by simpa [newKernel, newFrames] using hj
  rw [show nth (newKernel p f []).Machine.Frames.Used j = false from nth_replicate hj', show (newKernel p f []).Machine.Table = newTable p from rfl, newPages]
  rfl
/-- A heap begun anew. -/
def resetH (h : DHeap) : DHeap := { newHeap (pgN h) h.Kernel.Machine.Frames.Used.length h.Caches.length h.Limit [] with Kernel := (destroyed h).1, Seed := h.Seed, Clock := h.Clock }
def resetOk (h : DHeap) : Bool := heapS h && decide (h.Kernel.Calls ≠ 100000)
def reset (h : DHeap) : DHeap := if resetOk h then resetH h else h
theorem heap_bounds {h : DHeap} (hh : heapS h = true) : 1 ≤ pgN h ∧ pgN h ≤ 32 ∧ 1 ≤ h.Kernel.Machine.Frames.Used.length ∧ h.Kernel.Machine.Frames.Used.length ≤ 32 ∧ 1 ≤ h.Caches.length ∧ h.Caches.length ≤ 4 ∧ 0 ≤ h.Limit ∧ h.Limit ≤ 1000 ∧ 0 ≤ h.Kernel.Calls ∧ h.Kernel.Calls ≤ 100000 := by
 obtain ⟨k1, -, -, -, k5, ⟨-, k6⟩, -⟩ := heapS_all hh
 obtain ⟨-, q1, q2, -, q3, q4, -⟩ := kernelOk_iff.1 k1
 obtain ⟨f1, f2, f3, -⟩ := framesOk_iff.1 q1
 obtain ⟨-, t1, t2⟩ := tableOk_iff.1 q2
 have hml := mailOk_facts k5
 have hnm := heapS_num hh
 unfold numsOk at hnm
 rw [decide_eq_true_eq] at hnm
 exact ⟨t1, t2, by omega, by omega, by omega, by omega, by omega, by omega, q3, q4⟩
theorem reset_pages (h : DHeap) : (destroyed h).1.Machine.Table.Entries.length = pgN h := by
 unfold destroyed
 split
 ·exact (destr_len h.Kernel _).1
 ·rfl
theorem newHeap_sml {p f t : Nat} {lim : Int} (hp : p ≤ 32) (hf : f ≤ 32) (ht : t ≤ 4) : DHeap.sml (newHeap p f t lim []) := by
 have hrep : ∀ n : Nat, n ≤ 1048576 → ∀ {α : Type} (a : α), (List.replicate n a).length ≤ 1048576 := fun n hn α a => by rw [List.length_replicate]; exact hn
 have e1 : smlIntSS (List.replicate f (List.replicate 16 (0 : Int))) := ⟨hrep _ (by omega) _, fun y hy => by rw [(List.mem_replicate.1 hy).2]; exact hrep 16 (by decide) _⟩
 have e2 : smlIntSS (List.replicate 4 ([] : List Int)) := ⟨hrep _ (by decide) _, fun y hy => by rw [(List.mem_replicate.1 hy).2]; exact Nat.zero_le _⟩
 have e3 : smlIntSS (List.replicate t ([] : List Int)) := ⟨hrep _ (by omega) _, fun y hy => by rw [(List.mem_replicate.1 hy).2]; exact Nat.zero_le _⟩
 have e4 : smlBoolS (List.replicate f false) := hrep _ (by omega) _
 have e5 : smlDEntryS (List.replicate p ⟨0, 0⟩) := ⟨hrep _ (by omega) _, fun _ _ => trivial⟩
 have e6 : smlDRangeS [⟨0, p⟩] := ⟨by show 1 ≤ 1048576; decide, fun _ _ => trivial⟩
 have e7 : smlDCacheS (List.replicate t newCache) := ⟨hrep _ (by omega) _, fun y hy => by rw [(List.mem_replicate.1 hy).2]; exact e2⟩
 have e8 : smlDPostSS (List.replicate t ([] : List DPost)) := ⟨hrep _ (by omega) _, fun y hy => by rw [(List.mem_replicate.1 hy).2]; exact ⟨Nat.zero_le _, fun _ _ => trivial⟩⟩
 exact ⟨⟨⟨⟨e1, e4⟩, e5⟩, Nat.zero_le _⟩, e6, ⟨Nat.zero_le _, fun _ _ => trivial⟩, ⟨Nat.zero_le _, fun _ _ => trivial⟩, ⟨Nat.zero_le _, fun _ _ => trivial⟩, e7, ⟨e8, e3⟩, ⟨Nat.zero_le _, fun _ _ => trivial⟩, Nat.zero_le _⟩
end Go.Proofs.YtogajjgmcnjkbaaGreat.Ab
/- The library's Clone at numbers. No condition. -/
namespace Go.Proofs.YtogajjgmcnjkbaaGreat.Ab
open Go.RowKit
set_option maxRecDepth 20000
set_option maxHeartbeats 4000000
theorem keeps_grow (w : World) (q : Nat) (os : Array Obj) : Keeps NO w (Sort.grow (w.drewN q) os) := by
 have hb : ∀ b, b < w.heap.size → (Sort.grow (w.drewN q) os).heap[b]? = w.heap[b]? := fun b hb => Sort.heap_grow_old (w.drewN q) os hb
 refine ⟨rfl, rfl, rfl, by show w.heap.size ≤ (w.heap ++ os).size; simp, fun b h _ => hb b h, fun b o h _ => ?_, fun b o h _ => ?_⟩
 ·show World.cell? _ _ = World.cell? w _
  unfold World.cell?; simp only [hb b h]
 ·refine Prod.ext ?_ ?_
  ·show World.frozen? _ _ = World.frozen? w _
   unfold World.frozen?; simp only [hb b h]
  ·show mp _ b = mp w b
   unfold mp; rw [hb b h]
theorem clone_nil (c : Nat) (W : World) : Calls Tryz.prog 320 #[.slice none 0 c] W fun e w' => ∃ B q os, e = .returned (.slice B 0 0) ∧ w' = Sort.grow (W.drewN q) os := by
 have q22 : ∀ (w : World) (a : Option Addr) (n c n' c' : Nat), (binOp .eql 31 (.slice a n c) (.slice none n' c')).run Tryz.prog w = .ok (.bool a.isNone) w := fun w a n c n' c' => Lib.run_eql_slice_nil w _ _ a n c n' c' Tryz.underlying31
 go_enter Tryz.func320, Tryz.ntmps320
 go_wp2
 go_ret
 exact ⟨none, 0, #[], rfl, by simp [Sort.grow, World.drewN]⟩
theorem clone_zero (a : Addr) (c : Nat) (W : World) : Calls Tryz.prog 320 #[.slice (some a) 0 c] W fun e w' => ∃ B q os, e = .returned (.slice B 0 0) ∧ w' = Sort.grow (W.drewN q) os := by
 have q22 : ∀ (w : World) (a : Option Addr) (n c n' c' : Nat), (binOp .eql 31 (.slice a n c) (.slice none n' c')).run Tryz.prog w = .ok (.bool a.isNone) w := fun w a n c n' c' => Lib.run_eql_slice_nil w _ _ a n c n' c' Tryz.underlying31
 go_enter Tryz.func320, Tryz.ntmps320
 go_wp2
 go_ret
 exact ⟨some ⟨W.heap.size, 0, none⟩, 0, #[.cells #[] 3], rfl, by rw [Sort.alloc_eq_grow]; rfl⟩
theorem Clone_ints (xs : List Int) (hl : xs.length ≤ 1048576) : CallsA Tryz.prog 320 false [.val none (rIntS .imm xs)] .one (rIntS .own xs) := by
 by_cases he : xs = []
 ·subst he
  refine ⟨⟨_, Tryz.func320, by kernel_rfl, by kernel_rfl⟩, fun w S vs hS hA => ?_⟩
  match vs, hA with
  | [v], ⟨hA, _⟩ =>
   have hrep := ValOk.rep1 (show ValOk w S NO none [C.s .imm []] v from hA)
   obtain ⟨ad, cap, rfl⟩ := hrep.slice
   have hz : Calls Tryz.prog 320 #[.slice ad 0 cap] w fun e w' => ∃ B q os, e = .returned (.slice B 0 0) ∧ w' = Sort.grow (w.drewN q) os := by
    cases ad with
    | none => exact clone_nil cap w
    | some a => exact clone_zero a cap w
   refine hz.mono fun e w' ⟨B, q, os, he, hw'⟩ => ?_
   subst hw'
   exact ⟨.slice B 0 0, he, keeps_grow w q os, NO, NO, fun _ _ h => h.elim, fun _ _ h => h.elim, fun _ _ h => h.elim, rfl, row1 (.nil _ .own B trivial)⟩
 ·have hne : xs.map (rI .imm) ≠ [] := fun e => he (List.map_eq_nil_iff.1 e)
  refine fO (n := 8) [] Tryz.func320 (by kernel_rfl) rfl (by kernel_rfl) (by rfl) (.inr (rIntS_fr _)) ?_
  repeat' ((conv=>whnf);first|with_reducible (first|refine Lm ?_|refine Wm (by omega) ?_|refine Bn ?_|refine Fm rfl ?_)|refine Bt ?_|refine Bu ?_|refine Nn.mk hne ?_|refine Ap.cp (fun _ => rfl) (fun _ => rfl) hl (by decide) ?_)
  rfl
theorem copyPlan_impl (p : DPlan) (hs : DPlan.sml p) : CallsA Tryz.prog 247 false [.val (some 3) (DPlan.enc .imm p)] .agg (DPlan.enc .own p) := by
 have hl : p.Cells.length ≤ 1048576 := hs
 refine fO (n := 8) [] Tryz.func247 (by kernel_rfl) rfl (by kernel_rfl) (by rfl) (.inr (DPlan.enc_fr _)) ?_
 repeat' ((conv=>whnf);first|with_reducible (first|refine Lm ?_|refine Wm (by omega) ?_|refine Bn ?_|refine Fm rfl ?_)|refine Bt ?_|refine Bu ?_|refine Cl.mk (Clone_ints p.Cells hl) ?_)
 rfl
theorem copyJob_impl (j : DJob) (hs : DJob.sml j) : CallsA Tryz.prog 136 false [.val (some 5) (DJob.enc .imm j)] .agg (DJob.enc .own j) := by
 refine fO (n := 8) [] Tryz.func136 (by kernel_rfl) rfl (by kernel_rfl) (by rfl) (.inr (DJob.enc_fr _)) ?_
 repeat' ((conv=>whnf);first|with_reducible (first|refine Lm ?_|refine Wm (by omega) ?_|refine Bn ?_|refine Fm rfl ?_)|refine Bt ?_|refine Bu ?_|refine Cl.mk (copyPlan_impl j.Plan hs) ?_)
 rfl
end Go.Proofs.YtogajjgmcnjkbaaGreat.Ab
/- Copies of caches, mail, quarantines, jobs and heaps: contracts, the reference's and the program's. No condition. -/
namespace Go.Proofs.YtogajjgmcnjkbaaGreat.Ab
open Go.RowKit
set_option maxRecDepth 20000
set_option maxHeartbeats 4000000
theorem l17Copy_spec (c : DCache) (hs : DCache.sml c) : CallsA Tryz.prog 103 false [.val (some 1) (DCache.enc .imm c)] .agg (DCache.enc .own c) := by
 have hl := hs.1
 refine fO (n := 26) [(5,10,[13,14,15,16,17,18,19,20,21,22])] Tryz.func103 (by kernel_rfl) rfl (by kernel_rfl) (by rfl) (.inr (DCache.enc_fr _)) ?_
 repeat' ((conv=>whnf);first|with_reducible (first|refine Lm ?_|refine Wm (by omega) ?_|refine Bn ?_|refine Fm rfl ?_)|refine Bt ?_|refine Bu ?_)
 (conv=>whnf)
 refine Lp.mk (ι := Nat) (fun i => [(1, .hold .box (DCache.enc .imm c)), (2, .hold .box [.z]), (3, .hold .box [.s .own ((c.Lists.take i).map (rIntS .own))]), (4, .hold .one [I ((i : Nat) : Int)])]) (fun i => i ≤ c.Lists.length) (fun i => c.Lists.length - i) (0) ?_ (Nat.zero_le _) fun i hi => ?_
 ·repeat' (first|exact trivial|rfl |refine And.intro ?_ ?_|(exact wkI (by first|omega|(simp only; omega)|(simp; omega))))
 by_cases li : i < c.Lists.length
 ·have hx := get_nth li
  have hxl : (nth c.Lists i).length ≤ 1048576 := hs.2 _ (nth_mem li)
  repeat' ((conv=>whnf);first|with_reducible (first|refine Lm ?_|refine Wm (by omega) ?_|refine Ix.nat (get_map hx) ?_|refine dT (by omega) (fun hq => ?_)|refine Bn ?_|refine Fm rfl ?_)|refine Bt ?_|refine Bu ?_|refine Fl.cp (fun _ => rfl) (fun _ => rfl) hxl (by decide) ?_|refine Ap.sn (map_one fun _ => rfl) rfl (by simp; omega) (by decide) (rows_snoc li) ?_)
  ((conv=>whnf);refine Nx.mk (i + 1) (by omega) (by omega) ?_; (repeat' (first|exact trivial|rfl|refine And.intro ?_ ?_|(exact wkI (by first|omega|(simp only; omega)|(simp; omega))))))
 ·repeat' ((conv=>whnf);first|with_reducible (first|refine Lm ?_|refine Wm (by omega) ?_|refine dF (by omega) (fun hq => ?_)|refine Bn ?_|refine Fm rfl ?_)|refine Bt ?_|refine Bu ?_)
  obtain rfl : i = c.Lists.length := by omega
  rw [List.take_length]
  rfl
theorem copyCache_impl (c : DCache) (hs : DCache.sml c) : CallsA Tryz.prog 133 false [.val (some 1) (DCache.enc .imm c)] .agg (DCache.enc .own c) := by
 have hl := hs.1
 refine fO (n := 23) [(5,5,[14,15,16,17,18])] Tryz.func133 (by kernel_rfl) rfl (by kernel_rfl) (by rfl) (.inr (DCache.enc_fr _)) ?_
 repeat' ((conv=>whnf);first|with_reducible (first|refine Lm ?_|refine Wm (by omega) ?_|refine Bn ?_|refine Fm rfl ?_)|refine Bt ?_|refine Bu ?_)
 (conv=>whnf)
 refine Lp.mk (ι := Nat) (fun i => [(2, .hold .box [.z]), (3, .hold .box [.s .own ((c.Lists.take i).map (rIntS .own))]), (8, .hold .one (rIntSS .imm c.Lists)), (9, .hold .one [I (c.Lists.length)]), (10, .hold .one [I ((i : Nat) : Int)])]) (fun i => i ≤ c.Lists.length) (fun i => c.Lists.length - i) (0) ?_ (Nat.zero_le _) fun i hi => ?_
 ·repeat' (first|exact trivial|rfl |refine And.intro ?_ ?_|(exact wkI (by first|omega|(simp only; omega)|(simp; omega))))
 by_cases li : i < c.Lists.length
 ·have hx := get_nth li
  have hxl : (nth c.Lists i).length ≤ 1048576 := hs.2 _ (nth_mem li)
  repeat' ((conv=>whnf);first|with_reducible (first|refine Lm ?_|refine Wm (by omega) ?_|refine Ix.nat (get_map hx) ?_|refine dT (by omega) (fun hq => ?_)|refine Bn ?_|refine Fm rfl ?_)|refine Bt ?_|refine Bu ?_|refine Cl.mk (copyInts_impl (nth c.Lists i) hxl) ?_|refine Ap.sn (map_one fun _ => rfl) rfl (by simp; omega) (by decide) (rows_snoc li) ?_)
  ((conv=>whnf);refine Nx.mk (i + 1) (by omega) (by omega) ?_; (repeat' (first|exact trivial|rfl|refine And.intro ?_ ?_|(exact wkI (by first|omega|(simp only; omega)|(simp; omega))))))
 ·repeat' ((conv=>whnf);first|with_reducible (first|refine Lm ?_|refine Wm (by omega) ?_|refine dF (by omega) (fun hq => ?_)|refine Bn ?_|refine Fm rfl ?_)|refine Bt ?_|refine Bu ?_)
  obtain rfl : i = c.Lists.length := by omega
  rw [List.take_length]
  rfl
theorem l18Copy_spec (m : DMail) (hs : DMail.sml m) : CallsA Tryz.prog 104 false [.val (some 2) (DMail.enc .imm m)] .agg (DMail.enc .own m) := by
 have hl := hs.1.1
 have hl2 := hs.2.1
 refine fO (n := 46) [(5,10,[14,15,16,17,18,19,20,21,22,23]),(9,10,[33,34,35,36,37,38,39,40,41,42])] Tryz.func104 (by kernel_rfl) rfl (by kernel_rfl) (by rfl) (.inr (DMail.enc_fr _)) ?_
 repeat' ((conv=>whnf);first|with_reducible (first|refine Lm ?_|refine Wm (by omega) ?_|refine Bn ?_|refine Fm rfl ?_)|refine Bt ?_|refine Bu ?_)
 (conv=>whnf)
 refine Lp.mk (ι := Nat) (fun i => [(1, .hold .box (DMail.enc .imm m)), (2, .hold .box [.z, .z]), (3, .hold .box [.s .own ((m.Buffers.take i).map (rDPostS .own)), .z]), (4, .hold .one [I ((i : Nat) : Int)])]) (fun i => i ≤ m.Buffers.length) (fun i => m.Buffers.length - i) (0) ?_ (Nat.zero_le _) fun i hi => ?_
 ·repeat' (first|exact trivial|rfl |refine And.intro ?_ ?_|(exact wkI (by first|omega|(simp only; omega)|(simp; omega))))
 by_cases li : i < m.Buffers.length
 ·have hx := get_nth li
  have hxl : (nth m.Buffers i).length ≤ 1048576 := (hs.1.2 _ (nth_mem li)).1
  repeat' ((conv=>whnf);first|with_reducible (first|refine Lm ?_|refine Wm (by omega) ?_|refine Ix.nat (get_map hx) ?_|refine dT (by omega) (fun hq => ?_)|refine Bn ?_|refine Fm rfl ?_)|refine Bt ?_|refine Bu ?_|refine Fl.cp (fun _ => rfl) (fun _ => rfl) hxl (by decide) ?_|refine Ap.sn (map_one fun _ => rfl) rfl (by simp; omega) (by decide) (rows_snoc li) ?_)
  ((conv=>whnf);refine Nx.mk (i + 1) (by omega) (by omega) ?_; (repeat' (first|exact trivial|rfl|refine And.intro ?_ ?_|(exact wkI (by first|omega|(simp only; omega)|(simp; omega))))))
 obtain rfl : i = m.Buffers.length := by omega
 rw [List.take_length]
 repeat' ((conv=>whnf);first|with_reducible (first|refine Lm ?_|refine Wm (by omega) ?_|refine dF (by omega) (fun hq => ?_)|refine Bn ?_|refine Fm rfl ?_)|refine Bt ?_|refine Bu ?_)
 (conv=>whnf)
 refine Lp.mk (ι := Nat) (fun k => [(1, .hold .box (DMail.enc .imm m)), (2, .hold .box [.z, .z]), (3, .hold .box [.s .own (m.Buffers.map (rDPostS .own)), .s .own ((m.Inbox.take k).map (rIntS .own))]), (5, .hold .one [I ((k : Nat) : Int)])]) (fun k => k ≤ m.Inbox.length) (fun k => m.Inbox.length - k) (0) ?_ (Nat.zero_le _) fun k hk => ?_
 ·repeat' (first|exact trivial|rfl |refine And.intro ?_ ?_|(exact wkI (by first|omega|(simp only; omega)|(simp; omega))))
 by_cases lk : k < m.Inbox.length
 ·have hx := get_nth lk
  have hxl : (nth m.Inbox k).length ≤ 1048576 := hs.2.2 _ (nth_mem lk)
  repeat' ((conv=>whnf);first|with_reducible (first|refine Lm ?_|refine Wm (by omega) ?_|refine Ix.nat (get_map hx) ?_|refine dT (by omega) (fun hq => ?_)|refine Bn ?_|refine Fm rfl ?_)|refine Bt ?_|refine Bu ?_|refine Fl.cp (fun _ => rfl) (fun _ => rfl) hxl (by decide) ?_|refine Ap.sn (map_one fun _ => rfl) rfl (by simp; omega) (by decide) (rows_snoc lk) ?_)
  ((conv=>whnf);refine Nx.mk (k + 1) (by omega) (by omega) ?_; (repeat' (first|exact trivial|rfl|refine And.intro ?_ ?_|(exact wkI (by first|omega|(simp only; omega)|(simp; omega))))))
 ·repeat' ((conv=>whnf);first|with_reducible (first|refine Lm ?_|refine Wm (by omega) ?_|refine dF (by omega) (fun hq => ?_)|refine Bn ?_|refine Fm rfl ?_)|refine Bt ?_|refine Bu ?_)
  obtain rfl : k = m.Inbox.length := by omega
  rw [List.take_length]
  rfl
theorem copyMail_impl (m : DMail) (hs : DMail.sml m) : CallsA Tryz.prog 134 false [.val (some 2) (DMail.enc .imm m)] .agg (DMail.enc .own m) := by
 have hl := hs.1.1
 have hl2 := hs.2.1
 refine fO (n := 41) [(5,6,[16,17,18,19,20,21]),(10,5,[32,33,34,35,36])] Tryz.func134 (by kernel_rfl) rfl (by kernel_rfl) (by rfl) (.inr (DMail.enc_fr _)) ?_
 repeat' ((conv=>whnf);first|with_reducible (first|refine Lm ?_|refine Wm (by omega) ?_|refine Bn ?_|refine Fm rfl ?_)|refine Bt ?_|refine Bu ?_)
 (conv=>whnf)
 refine Lp.mk (ι := Nat) (fun i => [(1, .hold .box (DMail.enc .imm m)), (2, .hold .box [.z, .z]), (3, .hold .box [.s .own ((m.Buffers.take i).map (rDPostS .own)), .z]), (10, .hold .one (rDPostSS .imm m.Buffers)), (11, .hold .one [I (m.Buffers.length)]), (12, .hold .one [I ((i : Nat) : Int)])]) (fun i => i ≤ m.Buffers.length) (fun i => m.Buffers.length - i) (0) ?_ (Nat.zero_le _) fun i hi => ?_
 ·repeat' (first|exact trivial|rfl |refine And.intro ?_ ?_|(exact wkI (by first|omega|(simp only; omega)|(simp; omega))))
 by_cases li : i < m.Buffers.length
 ·have hx := get_nth li
  have hxl : (nth m.Buffers i).length ≤ 1048576 := (hs.1.2 _ (nth_mem li)).1
  repeat' ((conv=>whnf);first|with_reducible (first|refine Lm ?_|refine Wm (by omega) ?_|refine Ix.nat (get_map hx) ?_|refine dT (by omega) (fun hq => ?_)|refine Bn ?_|refine Fm rfl ?_)|refine Bt ?_|refine Bu ?_|refine Fl.cp (fun _ => rfl) (fun _ => rfl) hxl (by decide) ?_|refine Ap.sn (map_one fun _ => rfl) rfl (by simp; omega) (by decide) (rows_snoc li) ?_)
  ((conv=>whnf);refine Nx.mk (i + 1) (by omega) (by omega) ?_; (repeat' (first|exact trivial|rfl|refine And.intro ?_ ?_|(exact wkI (by first|omega|(simp only; omega)|(simp; omega))))))
 obtain rfl : i = m.Buffers.length := by omega
 rw [List.take_length]
 repeat' ((conv=>whnf);first|with_reducible (first|refine Lm ?_|refine Wm (by omega) ?_|refine dF (by omega) (fun hq => ?_)|refine Bn ?_|refine Fm rfl ?_)|refine Bt ?_|refine Bu ?_)
 (conv=>whnf)
 refine Lp.mk (ι := Nat) (fun k => [(2, .hold .box [.z, .z]), (3, .hold .box [.s .own (m.Buffers.map (rDPostS .own)), .s .own ((m.Inbox.take k).map (rIntS .own))]), (26, .hold .one (rIntSS .imm m.Inbox)), (27, .hold .one [I (m.Inbox.length)]), (28, .hold .one [I ((k : Nat) : Int)])]) (fun k => k ≤ m.Inbox.length) (fun k => m.Inbox.length - k) (0) ?_ (Nat.zero_le _) fun k hk => ?_
 ·repeat' (first|exact trivial|rfl |refine And.intro ?_ ?_|(exact wkI (by first|omega|(simp only; omega)|(simp; omega))))
 by_cases lk : k < m.Inbox.length
 ·have hx := get_nth lk
  have hxl : (nth m.Inbox k).length ≤ 1048576 := hs.2.2 _ (nth_mem lk)
  repeat' ((conv=>whnf);first|with_reducible (first|refine Lm ?_|refine Wm (by omega) ?_|refine Ix.nat (get_map hx) ?_|refine dT (by omega) (fun hq => ?_)|refine Bn ?_|refine Fm rfl ?_)|refine Bt ?_|refine Bu ?_|refine Cl.mk (copyInts_impl (nth m.Inbox k) hxl) ?_|refine Ap.sn (map_one fun _ => rfl) rfl (by simp; omega) (by decide) (rows_snoc lk) ?_)
  ((conv=>whnf);refine Nx.mk (k + 1) (by omega) (by omega) ?_; (repeat' (first|exact trivial|rfl|refine And.intro ?_ ?_|(exact wkI (by first|omega|(simp only; omega)|(simp; omega))))))
 ·repeat' ((conv=>whnf);first|with_reducible (first|refine Lm ?_|refine Wm (by omega) ?_|refine dF (by omega) (fun hq => ?_)|refine Bn ?_|refine Fm rfl ?_)|refine Bt ?_|refine Bu ?_)
  obtain rfl : k = m.Inbox.length := by omega
  rw [List.take_length]
  rfl
theorem l22Copy_spec (q : DQuar) (hs : DQuar.sml q) : CallsA Tryz.prog 105 false [.val (some 2) (DQuar.enc .imm q)] .agg (DQuar.enc .own q) := by
 have hl : q.Lst.length ≤ 1048576 := hs.1
 refine fO (n := 10) [(1,6,[3,4,5,6,7,8])] Tryz.func105 (by kernel_rfl) rfl (by kernel_rfl) (by rfl) (.inr (DQuar.enc_fr _)) ?_
 repeat' ((conv=>whnf);first|with_reducible (first|refine Lm ?_|refine Wm (by omega) ?_|refine Bn ?_|refine Fm rfl ?_)|refine Bt ?_|refine Bu ?_|refine Fl.cp (fun _ => rfl) (fun _ => rfl) hl (by decide) ?_|refine Ap.cp (fun _ => rfl) (fun _ => rfl) hl (by decide) ?_)
 rfl
theorem copyQuar_impl (q : DQuar) (hs : DQuar.sml q) : CallsA Tryz.prog 135 false [.val (some 2) (DQuar.enc .imm q)] .agg (DQuar.enc .own q) := by
 have hl : q.Lst.length ≤ 1048576 := hs.1
 refine fO (n := 10) [(1,6,[3,4,5,6,7,8])] Tryz.func135 (by kernel_rfl) rfl (by kernel_rfl) (by rfl) (.inr (DQuar.enc_fr _)) ?_
 repeat' ((conv=>whnf);first|with_reducible (first|refine Lm ?_|refine Wm (by omega) ?_|refine Bn ?_|refine Fm rfl ?_)|refine Bt ?_|refine Bu ?_|refine Fl.cp (fun _ => rfl) (fun _ => rfl) hl (by decide) ?_|refine Ap.cp (fun _ => rfl) (fun _ => rfl) hl (by decide) ?_)
 rfl
theorem l14Copy_spec (j : DJob) (hs : DJob.sml j) : CallsA Tryz.prog 106 false [.val (some 5) (DJob.enc .imm j)] .agg (DJob.enc .own j) := by
 have hl : j.Plan.Cells.length ≤ 1048576 := hs
 refine fO (n := 11) [] Tryz.func106 (by kernel_rfl) rfl (by kernel_rfl) (by rfl) (.inr (DJob.enc_fr _)) ?_
 repeat' ((conv=>whnf);first|with_reducible (first|refine Lm ?_|refine Wm (by omega) ?_|refine Bn ?_|refine Fm rfl ?_)|refine Bt ?_|refine Bu ?_|refine Ap.cp (fun _ => rfl) (fun _ => rfl) hl (by decide) ?_)
 rfl
theorem copyRanges_impl (xs : List DRange) (hs : smlDRangeS xs) : CallsA Tryz.prog 132 false [.val none (rDRangeS .imm xs)] .one (rDRangeS .own xs) := by
 have hl := hs.1
 refine fO (n := 6) [] Tryz.func132 (by kernel_rfl) rfl (by kernel_rfl) (by rfl) (.inr (rDRangeS_fr _)) ?_
 repeat' ((conv=>whnf);first|with_reducible (first|refine Lm ?_|refine Wm (by omega) ?_|refine Bn ?_|refine Fm rfl ?_)|refine Bt ?_|refine Bu ?_|refine Ap.cp (fun _ => rfl) (fun _ => rfl) hl (by decide) ?_)
 rfl
/-- A heap whose copy is under way: the first parts its own, then the caches cc, then what it was made of. -/
def mixH (h : DHeap) (cc : C) : List C := [.s .own (h.Kernel.Machine.Frames.Cells.map (rIntS .own)), .s .own (h.Kernel.Machine.Frames.Used.map (rB .own)), .s .own (h.Kernel.Machine.Table.Entries.map (DEntry.enc .own)), I h.Kernel.Calls, .s .own (h.Kernel.Refuse.map (rI .own)), .s .own (h.Free.map (DRange.enc .own)), .s .own (h.Spans.map (DSpan.enc .own)), .s .own (h.Larges.map (DLarge.enc .own)), .s .own (h.Objs.map (DObj.enc .own)), cc, .s .imm (h.Mail.Buffers.map (rDPostS .imm)), .s .imm (h.Mail.Inbox.map (rIntS .imm)), I h.Quar.Room, .s .imm (h.Quar.Lst.map (DStale.enc .imm)), I h.Seed, I h.Clock, I h.Limit, I h.Next, B h.Meshing, I h.Job.Plan.Keep, I h.Job.Plan.Move, .s .imm (h.Job.Plan.Cells.map (rI .imm)), I h.Job.Phase, I h.Job.Next]
def zeroH : List C := [.z, .z, .z, I 0, .z, .z, .z, .z, .z, .z, .z, .z, I 0, .z, I 0, I 0, I 0, I 0, B false, I 0, I 0, .z, I 0, I 0]
theorem l27Copy_spec (h : DHeap) (hs : DHeap.sml h) : CallsA Tryz.prog 28 false [.val (some 24) (DHeap.enc .imm h)] .agg (DHeap.enc .own h) := by
 obtain ⟨s1, s2, s3, s4, s5, s6, s7, s8, s9⟩ := hs
 have l2 := s2.1
 have l3 := s3.1
 have l4 := s4.1
 have l5 := s5.1
 have l6 := s6.1
 refine fO (n := 61) [] Tryz.func28 (by kernel_rfl) rfl (by kernel_rfl) (by rfl) (.inr (DHeap.enc_fr _)) ?_
 repeat' ((conv=>whnf);first|with_reducible (first|refine Lm ?_|refine Wm (by omega) ?_|refine Bn ?_|refine Fm rfl ?_)|refine Bt ?_|refine Bu ?_|refine Cl.mk (l08Copy_spec h.Kernel s1) ?_|refine Ap.cp (fun _ => rfl) (fun _ => rfl) l2 (by decide) ?_|refine Ap.cp (fun _ => rfl) (fun _ => rfl) l3 (by decide) ?_|refine Ap.cp (fun _ => rfl) (fun _ => rfl) l4 (by decide) ?_|refine Ap.cp (fun _ => rfl) (fun _ => rfl) l5 (by decide) ?_)
 (conv=>whnf)
 refine Lp.mk (ι := Nat) (fun i => [(1, .hold .box (mixH h (.s .imm (h.Caches.map (DCache.enc .imm))))), (2, .hold .box zeroH), (3, .hold .one ([.s .own ((h.Caches.take i).map (DCache.enc .own))])), (4, .hold .one [I ((i : Nat) : Int)])]) (fun i => i ≤ h.Caches.length) (fun i => h.Caches.length - i) (0) ?_ (Nat.zero_le _) fun i hi => ?_
 ·repeat' (first|exact trivial|rfl |refine And.intro ?_ ?_|(exact wkI (by first|omega|(simp only; omega)|(simp; omega))))
 by_cases li : i < h.Caches.length
 ·have hx := get_nth li
  repeat' ((conv=>whnf);first|with_reducible (first|refine Lm ?_|refine Wm (by omega) ?_|refine Ix.nat (get_map hx) ?_|refine dT (by omega) (fun hq => ?_)|refine Bn ?_|refine Fm rfl ?_)|refine Bt ?_|refine Bu ?_|refine Cl.mk (l17Copy_spec (nth h.Caches i) (s6.2 _ (nth_mem li))) ?_|refine Ap.sn (map_one fun _ => rfl) rfl (by simp; omega) (by decide) (rows_snoc li) ?_)
  ((conv=>whnf);refine Nx.mk (i + 1) (by omega) (by omega) ?_; (repeat' (first|exact trivial|rfl|refine And.intro ?_ ?_|(exact wkI (by first|omega|(simp only; omega)|(simp; omega))))))
 ·obtain rfl : i = h.Caches.length := by omega
  rw [List.take_length]
  repeat' ((conv=>whnf);first|with_reducible (first|refine Lm ?_|refine Wm (by omega) ?_|refine dF (by omega) (fun hq => ?_)|refine Bn ?_|refine Fm rfl ?_)|refine Bt ?_|refine Bu ?_|refine Cl.mk (l18Copy_spec h.Mail s7) ?_|refine Cl.mk (l22Copy_spec h.Quar s8) ?_|refine Cl.mk (l14Copy_spec h.Job s9) ?_)
  rfl
theorem copyHeap_impl (h : DHeap) (hs : DHeap.sml h) : CallsA Tryz.prog 43 false [.val (some 24) (DHeap.enc .imm h)] .agg (DHeap.enc .own h) := by
 obtain ⟨s1, s2, s3, s4, s5, s6, s7, s8, s9⟩ := hs
 have l3 := s3.1
 have l4 := s4.1
 have l5 := s5.1
 have l6 := s6.1
 refine fO (n := 59) [(11,5,[38,39,40,41,42])] Tryz.func43 (by kernel_rfl) rfl (by kernel_rfl) (by rfl) (.inr (DHeap.enc_fr _)) ?_
 repeat' ((conv=>whnf);first|with_reducible (first|refine Lm ?_|refine Wm (by omega) ?_|refine Bn ?_|refine Fm rfl ?_)|refine Bt ?_|refine Bu ?_|refine Cl.mk (copyKernel_impl h.Kernel s1) ?_|refine Cl.mk (copyRanges_impl h.Free s2) ?_|refine Ap.cp (fun _ => rfl) (fun _ => rfl) l3 (by decide) ?_|refine Ap.cp (fun _ => rfl) (fun _ => rfl) l4 (by decide) ?_|refine Ap.cp (fun _ => rfl) (fun _ => rfl) l5 (by decide) ?_)
 (conv=>whnf)
 refine Lp.mk (ι := Nat) (fun i => [(1, .hold .box (DHeap.enc .imm h)), (2, .hold .box zeroH), (3, .hold .box (mixH h (.s .own ((h.Caches.take i).map (DCache.enc .own))))), (32, .hold .one (rDCacheS .imm h.Caches)), (33, .hold .one [I (h.Caches.length)]), (34, .hold .one [I ((i : Nat) : Int)])]) (fun i => i ≤ h.Caches.length) (fun i => h.Caches.length - i) (0) ?_ (Nat.zero_le _) fun i hi => ?_
 ·repeat' (first|exact trivial|rfl |refine And.intro ?_ ?_|(exact wkI (by first|omega|(simp only; omega)|(simp; omega))))
 by_cases li : i < h.Caches.length
 ·have hx := get_nth li
  repeat' ((conv=>whnf);first|with_reducible (first|refine Lm ?_|refine Wm (by omega) ?_|refine Ix.nat (get_map hx) ?_|refine dT (by omega) (fun hq => ?_)|refine Bn ?_|refine Fm rfl ?_)|refine Bt ?_|refine Bu ?_|refine Cl.mk (copyCache_impl (nth h.Caches i) (s6.2 _ (nth_mem li))) ?_|refine Ap.sn (map_one fun _ => rfl) rfl (by simp; omega) (by decide) (rows_snoc li) ?_)
  ((conv=>whnf);refine Nx.mk (i + 1) (by omega) (by omega) ?_; (repeat' (first|exact trivial|rfl|refine And.intro ?_ ?_|(exact wkI (by first|omega|(simp only; omega)|(simp; omega))))))
 ·obtain rfl : i = h.Caches.length := by omega
  rw [List.take_length]
  repeat' ((conv=>whnf);first|with_reducible (first|refine Lm ?_|refine Wm (by omega) ?_|refine dF (by omega) (fun hq => ?_)|refine Bn ?_|refine Fm rfl ?_)|refine Bt ?_|refine Bu ?_|refine Cl.mk (copyMail_impl h.Mail s7) ?_|refine Cl.mk (copyQuar_impl h.Quar s8) ?_|refine Cl.mk (copyJob_impl h.Job s9) ?_)
  rfl
end Go.Proofs.YtogajjgmcnjkbaaGreat.Ab
/- New frames, tables, kernels, mail, caches and heaps: contracts. No condition. -/
namespace Go.Proofs.YtogajjgmcnjkbaaGreat.Ab
open Go.RowKit
set_option maxRecDepth 20000
set_option maxHeartbeats 4000000
theorem rep_snoc {α : Type} (a : α) (k : Nat) : List.replicate (k + 1) a = List.replicate k a ++ [a] := List.replicate_succ' ..
theorem frames_enc (n k : Nat) : DFrames.enc .own ⟨List.replicate k (List.replicate 16 0), List.replicate n false⟩ = [.s .own (List.replicate k [.s .own (List.replicate 16 [I 0])]), .s .own (List.replicate n [B false])] := by
 simp [DFrames.enc, rIntS, rI, rB, List.map_replicate]
theorem FramesNew_impl (n : Nat) (hn : 1 ≤ n ∧ n ≤ 32) : CallsA Tryz.prog 321 false [.val none [I (n : Nat)]] (.tup [some 2, none]) (DFrames.enc .own (newFrames n) ++ [B true]) := by
 have c1 := between_ok ((n : Nat) : Int) 1 32
 rw [decide_eq_true (by omega)] at c1
 have hfr := frL_append (b := [B true]) (DFrames.enc_fr (newFrames n)) ⟨trivial, trivial⟩
 rw [show DFrames.enc .own (newFrames n) = _ from frames_enc n n] at hfr ⊢
 refine fO (n := 25) [(7,4,[18,19,20,21])] Tryz.func321 (by kernel_rfl) rfl (by kernel_rfl) (by rfl) (.inr hfr) ?_
 repeat' ((conv=>whnf);first|with_reducible (first|refine Lm ?_|refine Wm (by omega) ?_|refine Bn ?_|refine Fm rfl ?_)|refine Bt ?_|refine Bu ?_|refine Sm.rf ?_|refine Cl.mk (c1) ?_|refine Mk.mk n rfl rfl (by omega) (mkB (by omega) (by decide)) rfl ?_)
 (conv=>whnf)
 refine Lp.mk (ι := Nat) (fun k => [(0, .hold .one [I ((n : Nat))]), (2, .hold .box [.z, .z]), (4, .hold .box [.s .own (List.replicate k [.s .own (List.replicate 16 [I 0])]), .s .own (List.replicate n [B false])]), (5, .hold .one [I ((k : Nat) : Int)])]) (fun k => k ≤ n) (fun k => n - k) (0) ?_ (Nat.zero_le _) fun k hk => ?_
 ·repeat' (first|exact trivial|rfl |refine And.intro ?_ ?_|(exact wkI (by first|omega|(simp only; omega)|(simp; omega))))
 by_cases lk : k < n
 ·repeat' ((conv=>whnf);first|with_reducible (first|refine Lm ?_|refine Wm (by omega) ?_|refine dT (by omega) (fun hq => ?_)|refine Bn ?_|refine Fm rfl ?_)|refine Bt ?_|refine Bu ?_|refine Sm.rf ?_|refine Mk.mk 16 rfl rfl (by decide) (by decide) rfl ?_|refine Ap.sn (fun r hr => by rw [(List.mem_replicate.1 hr).2]; rfl) rfl (by simp; omega) (by decide) (rep_snoc _ k) ?_)
  ((conv=>whnf);refine Nx.mk (k + 1) (by omega) (by omega) ?_; (repeat' (first|exact trivial|rfl|refine And.intro ?_ ?_|(exact wkI (by first|omega|(simp only; omega)|(simp; omega))))))
 ·obtain rfl : k = n := by omega
  repeat' ((conv=>whnf);first|with_reducible (first|refine Lm ?_|refine Wm (by omega) ?_|refine dF (by omega) (fun hq => ?_)|refine Bn ?_|refine Fm rfl ?_)|refine Bt ?_|refine Bu ?_|refine Sm.rf ?_)
  rfl
theorem TableNew_impl (n : Nat) (hn : 1 ≤ n ∧ n ≤ 32) : CallsA Tryz.prog 322 false [.val none [I (n : Nat)]] (.tup [some 1, none]) (DTable.enc .own (newTable n) ++ [B true]) := by
 have c1 := between_ok ((n : Nat) : Int) 1 32
 rw [decide_eq_true (by omega)] at c1
 have hfr := frL_append (b := [B true]) (DTable.enc_fr (newTable n)) ⟨trivial, trivial⟩
 have he : DTable.enc .own (newTable n) = [.s .own (List.replicate n [I 0, I 0])] := by simp [DTable.enc, newTable, DEntry.enc, List.map_replicate]
 rw [he] at hfr ⊢
 refine fO (n := 11) [] Tryz.func322 (by kernel_rfl) rfl (by kernel_rfl) (by rfl) (.inr hfr) ?_
 repeat' ((conv=>whnf);first|with_reducible (first|refine Lm ?_|refine Wm (by omega) ?_|refine Bn ?_|refine Fm rfl ?_)|refine Bt ?_|refine Bu ?_|refine Sm.rf ?_|refine Cl.mk (c1) ?_|refine Mk.mk n rfl rfl (by omega) (mkB (by omega) (by decide)) rfl ?_)
 rfl
theorem MachineNew_impl (p f : Nat) (hp : 1 ≤ p ∧ p ≤ 32) (hf : 1 ≤ f ∧ f ≤ 32) : CallsA Tryz.prog 250 false [.val none [I (p : Nat)], .val none [I (f : Nat)]] (.tup [some 3, none]) (DMachine.enc .own ⟨newFrames f, newTable p⟩ ++ [B true]) := by
 refine fO (n := 30) [] Tryz.func250 (by kernel_rfl) rfl (by kernel_rfl) (by rfl) (.inr (frL_append (DMachine.enc_fr _) ⟨trivial, trivial⟩)) ?_
 repeat' ((conv=>whnf);first|with_reducible (first|refine Lm ?_|refine Wm (by omega) ?_|refine Bn ?_|refine Fm rfl ?_)|refine Bt ?_|refine Bu ?_|refine Sm.rf ?_|refine Cl.mk (FramesNew_impl f hf) ?_|refine Cl.mk (TableNew_impl p hp) ?_)
 rfl
theorem copyInts_nil : CallsA Tryz.prog 246 false [.val none [.z]] .one (rIntS .own []) := by
 refine fO (n := 6) [] Tryz.func246 (by kernel_rfl) rfl (by kernel_rfl) (by rfl) (.inr (rIntS_fr _)) ?_
 repeat' ((conv=>whnf);first|with_reducible (first|refine Lm ?_|refine Wm (by omega) ?_|refine Bn ?_|refine Fm rfl ?_)|refine Bt ?_|refine Bu ?_|refine Sm.rf ?_|refine Ap.mk (fun r hr => by cases hr) (fun r hr => by cases hr) (fun _ r hr => by cases hr) (by simp) (by simp) rfl ?_)
 rfl
theorem KernelNew_impl (p f : Nat) (hp : 1 ≤ p ∧ p ≤ 32) (hf : 1 ≤ f ∧ f ≤ 32) : CallsA Tryz.prog 138 false [.val none [I (p : Nat)], .val none [I (f : Nat)], .val none [.z]] (.tup [some 5, none]) (DKernel.enc .own (newKernel p f []) ++ [B true]) := by
 have hk := newKernel_ok hp hf
 have c1 := KernelOk_impl (newKernel p f []) (kernelOk_sml hk)
 rw [hk] at c1
 refine fO (n := 30) [(2,260,[17,18,19,10,0,1,2,4,3,1004,5])] Tryz.func138 (by kernel_rfl) rfl (by kernel_rfl) (by rfl) (.inr (frL_append (DKernel.enc_fr _) ⟨trivial, trivial⟩)) ?_
 repeat' ((conv=>whnf);first|with_reducible (first|refine Lm ?_|refine Wm (by omega) ?_|refine Bn ?_|refine Fm rfl ?_)|refine Bt ?_|refine Bu ?_|refine Sm.rf ?_|refine Cl.mk (MachineNew_impl p f hp hf) ?_|refine Cl.mk (copyInts_nil) ?_|refine Cl.eq (c1) ⟨⟨rfl, DKernel.enc_fz (newKernel p f [])⟩, trivial⟩ ?_)
 rfl
theorem mail_dk (n : Nat) : dkL [.s .own (List.replicate n [.z]), .s .own (List.replicate n [.z]), B true] (DMail.enc .own (newMail n) ++ [B true]) := by
 have e : DMail.enc .own (newMail n) ++ [B true] = [.s .own (List.replicate n [.s .own []]), .s .own (List.replicate n [.s .own []]), B true] := by simp [DMail.enc, newMail, rDPostS, rIntS, List.map_replicate]
 rw [e]
 exact .cons (.rep (.cons .z_ .nil)) (.cons (.rep (.cons .z_ .nil)) (.cons (.rfl_ _) .nil))
theorem MailNew_impl (n : Nat) (hn : 1 ≤ n ∧ n ≤ 4) : CallsA Tryz.prog 139 false [.val none [I (n : Nat)]] (.tup [some 2, none]) (DMail.enc .own (newMail n) ++ [B true]) := by
 have c1 := between_ok ((n : Nat) : Int) 1 4
 rw [decide_eq_true (by omega)] at c1
 refine fO (n := 13) [(3,4,[8,9,10,11])] Tryz.func139 (by kernel_rfl) rfl (by kernel_rfl) (by rfl) (.inr (frL_append (DMail.enc_fr _) ⟨trivial, trivial⟩)) ?_
 repeat' ((conv=>whnf);first|with_reducible (first|refine Lm ?_|refine Wm (by omega) ?_|refine Bn ?_|refine Fin_.dk rfl ?_)|refine Bt ?_|refine Bu ?_|refine Sm.rf ?_|refine Cl.mk (c1) ?_|refine Mk.mk n rfl rfl (by omega) (mkB (by omega) (by decide)) rfl ?_)
 exact mail_dk n
theorem MailNew_spec (n : Nat) (hn : 1 ≤ n ∧ n ≤ 4) : CallsA Tryz.prog 30 false [.val none [I (n : Nat)]] (.tup [some 2, none]) (DMail.enc .own (newMail n) ++ [B true]) := by
 have c1 := l01In_ok ((n : Nat) : Int) 1 4
 rw [decide_eq_true (by omega)] at c1
 refine fO (n := 13) [(3,4,[8,9,10,11])] Tryz.func30 (by kernel_rfl) rfl (by kernel_rfl) (by rfl) (.inr (frL_append (DMail.enc_fr _) ⟨trivial, trivial⟩)) ?_
 repeat' ((conv=>whnf);first|with_reducible (first|refine Lm ?_|refine Wm (by omega) ?_|refine Bn ?_|refine Fin_.dk rfl ?_)|refine Bt ?_|refine Bu ?_|refine Sm.rf ?_|refine Cl.mk (c1) ?_|refine Mk.mk n rfl rfl (by omega) (mkB (by omega) (by decide)) rfl ?_)
 exact mail_dk n
theorem cache_dk : dkL [.s .own (List.replicate 4 [.z])] (DCache.enc .own newCache) := .cons (.rep (.cons .z_ .nil)) .nil
theorem CacheNew_impl : CallsA Tryz.prog 141 false [] .agg (DCache.enc .own newCache) := by
 refine fO (n := 3) [] Tryz.func141 (by kernel_rfl) rfl (by kernel_rfl) (by rfl) (.inr (DCache.enc_fr _)) ?_
 repeat' ((conv=>whnf);first|with_reducible (first|refine Lm ?_|refine Wm (by omega) ?_|refine Bn ?_|refine Fin_.dk rfl ?_)|refine Bt ?_|refine Bu ?_|refine Sm.rf ?_|refine Mk.mk 4 rfl rfl (by decide) (by decide) rfl ?_)
 exact cache_dk
theorem CacheNew_spec : CallsA Tryz.prog 31 false [] .agg (DCache.enc .own newCache) := by
 refine fO (n := 3) [] Tryz.func31 (by kernel_rfl) rfl (by kernel_rfl) (by rfl) (.inr (DCache.enc_fr _)) ?_
 repeat' ((conv=>whnf);first|with_reducible (first|refine Lm ?_|refine Wm (by omega) ?_|refine Bn ?_|refine Fin_.dk rfl ?_)|refine Bt ?_|refine Bu ?_|refine Sm.rf ?_|refine Mk.mk 4 rfl rfl (by decide) (by decide) rfl ?_)
 exact cache_dk
theorem QuarNew_impl : CallsA Tryz.prog 140 false [.val none [I 16]] (.tup [some 2, none]) (DQuar.enc .own ⟨16, []⟩ ++ [B true]) := by
 refine fO (n := 10) [] Tryz.func140 (by kernel_rfl) rfl (by kernel_rfl) (by rfl) (.inr (frL_append (DQuar.enc_fr _) ⟨trivial, trivial⟩)) ?_
 repeat' ((conv=>whnf);first|with_reducible (first|refine Lm ?_|refine Wm (by omega) ?_|refine Bn ?_|refine Fin_.wk rfl ?_)|refine Bt ?_|refine Bu ?_|refine Sm.rf ?_|refine Cl.mk (between_ok 16 0 500) ?_)
 exact ⟨rfl, rfl, rfl, trivial⟩
theorem QuarNew_spec : CallsA Tryz.prog 32 false [.val none [I 16]] (.tup [some 2, none]) (DQuar.enc .own ⟨16, []⟩ ++ [B true]) := by
 refine fO (n := 10) [] Tryz.func32 (by kernel_rfl) rfl (by kernel_rfl) (by rfl) (.inr (frL_append (DQuar.enc_fr _) ⟨trivial, trivial⟩)) ?_
 repeat' ((conv=>whnf);first|with_reducible (first|refine Lm ?_|refine Wm (by omega) ?_|refine Bn ?_|refine Fin_.wk rfl ?_)|refine Bt ?_|refine Bu ?_|refine Sm.rf ?_|refine Cl.mk (l01In_ok 16 0 500) ?_)
 exact ⟨rfl, rfl, rfl, trivial⟩
def caps (h : DHeap) (k : Nat) : DHeap := { h with Caches := List.replicate k newCache }
theorem caps_snoc (k : Nat) : (List.replicate (k + 1) newCache).map (DCache.enc .own) = (List.replicate k newCache).map (DCache.enc .own) ++ [DCache.enc .own newCache] := by rw [rep_snoc, List.map_append]; rfl
theorem caps_row {k : Nat} : ∀ r ∈ (List.replicate k newCache).map (DCache.enc .own), r.length = 1 := map_one fun _ => rfl
theorem HeapNew_impl (p f t : Nat) (lim : Int) (hp : 1 ≤ p ∧ p ≤ 32) (hf : 1 ≤ f ∧ f ≤ 32) (ht : 1 ≤ t ∧ t ≤ 4) (hl : 0 ≤ lim ∧ lim ≤ 1000) : CallsA Tryz.prog 45 false [.val none [I (p : Nat)], .val none [I (f : Nat)], .val none [I (t : Nat)], .val none [I lim], .val none [.z]] (.tup [some 24, none]) (DHeap.enc .own (newHeap p f t lim []) ++ [B true]) := by
 have c1 := between_ok lim 0 1000
 rw [decide_eq_true hl] at c1
 refine fO (n := 68) [(10,4,[61,62,63,64])] Tryz.func45 (by kernel_rfl) rfl (by kernel_rfl) (by rfl) (.inr (frL_append (DHeap.enc_fr _) ⟨trivial, trivial⟩)) ?_
 repeat' ((conv=>whnf);first|with_reducible (first|refine Lm ?_|refine Wm (by omega) ?_|refine Bn ?_|refine Fm rfl ?_)|refine Bt ?_|refine Bu ?_|refine Sm.rf ?_|refine Cl.mk (KernelNew_impl p f hp hf) ?_|refine Cl.mk (MailNew_impl t ht) ?_|refine Cl.mk (c1) ?_|refine Cl.mk (QuarNew_impl) ?_)
 (conv=>whnf)
 refine Lp.mk (ι := Nat) (fun k => [(2, .hold .one [I ((t : Nat))]), (10, .hold .box [.z, .z, .z, I 0, .z, .z, .z, .z, .z, .z, .z, .z, I 0, .z, I 0, I 0, I 0, I 0, B false, I 0, I 0, .z, I 0, I 0]), (18, .hold .box (DHeap.enc .own (caps (newHeap p f t lim []) k))), (19, .hold .one [I ((k : Nat) : Int)])]) (fun k => k ≤ t) (fun k => t - k) (0) ?_ (Nat.zero_le _) fun k hk => ?_
 ·repeat' (first|exact trivial|rfl |refine And.intro ?_ ?_|(exact wkI (by first|omega|(simp only; omega)|(simp; omega))))
 by_cases lk : k < t
 ·repeat' ((conv=>whnf);first|with_reducible (first|refine Lm ?_|refine Wm (by omega) ?_|refine dT (by omega) (fun hq => ?_)|refine Bn ?_|refine Fm rfl ?_)|refine Bt ?_|refine Bu ?_|refine Sm.rf ?_|refine Cl.mk (CacheNew_impl) ?_|refine Ap.sn caps_row rfl (by rw [List.length_map]; show (List.replicate _ newCache).length + 1 ≤ _; rw [List.length_replicate]; omega) (by decide) (caps_snoc k) ?_)
  ((conv=>whnf);refine Nx.mk (k + 1) (by omega) (by omega) ?_; (repeat' (first|exact trivial|rfl|refine And.intro ?_ ?_|(exact wkI (by first|omega|(simp only; omega)|(simp; omega))))))
 ·obtain rfl : k = t := by omega
  repeat' ((conv=>whnf);first|with_reducible (first|refine Lm ?_|refine Wm (by omega) ?_|refine dF (by omega) (fun hq => ?_)|refine Bn ?_|refine Fm rfl ?_)|refine Bt ?_|refine Bu ?_|refine Sm.rf ?_)
  rfl
end Go.Proofs.YtogajjgmcnjkbaaGreat.Ab
