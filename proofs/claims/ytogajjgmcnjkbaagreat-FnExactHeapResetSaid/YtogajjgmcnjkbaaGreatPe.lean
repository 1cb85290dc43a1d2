/- A heap begun anew: the reference's function and the program's; and the law FnExactHeapReset, walked. No condition. -/
import Derived.Test.YtogajjgmcnjkbaaGreatMp
import Derived.Test.YtogajjgmcnjkbaaGreatMk
import Derived.Test.YtogajjgmcnjkbaaGreatMl
namespace Go.Proofs.YtogajjgmcnjkbaaGreat.Ab
open Go.RowKit
set_option maxRecDepth 20000
set_option maxHeartbeats 4000000
theorem pagesOf_reset (h : DHeap) : CallsA Tryz.prog 46 false [.val (some 24) (DHeap.enc .imm h)] .one [I (pgN h : Nat)] := by
 refine fO (n := 9) [] Tryz.func46 (by kernel_rfl) rfl (by kernel_rfl) (by rfl) (.inr ⟨trivial, trivial⟩) ?_
 repeat' ((conv=>whnf);first|with_reducible (first|refine Lm ?_|refine Wm (by omega) ?_|refine Bn ?_|refine Fm rfl ?_)|refine Bt ?_|refine Bu ?_|refine Sm.rf ?_)
 rfl
theorem reset_no {h : DHeap} (e : resetOk h = false) : reset h = h := by unfold reset; rw [e]; rfl
theorem reset_yes {h : DHeap} (e : resetOk h = true) : reset h = resetH h := by unfold reset; rw [e]; rfl
theorem resetOk_yes {h : DHeap} (e : resetOk h = true) : heapS h = true ∧ h.Kernel.Calls ≠ 100000 := by unfold resetOk at e; simpa using e
theorem HeapReset_spec (h : DHeap) (hs : DHeap.sml h) (hw : DHeap.wf h) : CallsA Tryz.prog 7 false [.val (some 24) (DHeap.enc .imm h)] (.tup [some 24, none]) (DHeap.enc .own (reset h) ++ [B (resetOk h)]) := by
 have c1 := HeapOk_spec h hs hw
 have c2 := l08May_spec h.Kernel hs.1
 have c3 := l27Copy_spec h hs
 cases e1 : heapS h <;> rw [e1] at c1
 ·have er : resetOk h = false := by unfold resetOk; rw [e1]; rfl
  rw [reset_no er, er]
  refine fO (n := 68) [(10,4,[56,57,58,59])] Tryz.func7 (by kernel_rfl) rfl (by kernel_rfl) (by rfl) (.inr (frL_append (DHeap.enc_fr _) ⟨trivial, trivial⟩)) ?_
  repeat' ((conv=>whnf);first|with_reducible (first|refine Lm ?_|refine Wm (by omega) ?_|refine Bn ?_|refine Fm rfl ?_)|refine Bt ?_|refine Bu ?_|refine Sm.rf ?_|refine Cl.mk (c1) ?_|refine Cl.mk (c3) ?_)
  rfl
 obtain ⟨b1, b2, b3, b4, b5, b6, b7, b8, b9, b10⟩ := heap_bounds e1
 rw [heapS_kernel e1] at c2
 by_cases e2 : h.Kernel.Calls = 100000
 ·have er : resetOk h = false := by unfold resetOk; rw [e1, decide_eq_false (fun n => n e2)]; rfl
  rw [decide_eq_false (by omega)] at c2
  rw [reset_no er, er]
  refine fO (n := 68) [(10,4,[56,57,58,59])] Tryz.func7 (by kernel_rfl) rfl (by kernel_rfl) (by rfl) (.inr (frL_append (DHeap.enc_fr _) ⟨trivial, trivial⟩)) ?_
  repeat' ((conv=>whnf);first|with_reducible (first|refine Lm ?_|refine Wm (by omega) ?_|refine Bn ?_|refine Fm rfl ?_)|refine Bt ?_|refine Bu ?_|refine Sm.rf ?_|refine Cl.mk (c1) ?_|refine Cl.mk (c2) ?_|refine Cl.mk (c3) ?_)
  rfl
 have er : resetOk h = true := by unfold resetOk; rw [e1, decide_eq_true e2]; rfl
 rw [decide_eq_true (by omega)] at c2
 have c4 := HeapDestroy_spec h hs hw
 have hpg := reset_pages h
 rw [reset_yes er, er]
 unfold resetH
 generalize destroyed h = d at c4 hpg ⊢
 obtain ⟨k, m⟩ := d
 simp only at c4 hpg ⊢
 have hlc : h.Caches.length ≤ 1048576 := by omega
 refine fO (n := 68) [(10,4,[56,57,58,59])] Tryz.func7 (by kernel_rfl) rfl (by kernel_rfl) (by rfl) (.inr (frL_append (DHeap.enc_fr _) ⟨trivial, trivial⟩)) ?_
 repeat' ((conv=>whnf);first|with_reducible (first|refine Lm ?_|refine Wm (by omega) ?_|refine Bn ?_|refine Fm rfl ?_)|refine Bt ?_|refine Bu ?_|refine Sm.rf ?_|refine Cl.mk (c1) ?_|refine Cl.mk (c2) ?_|refine Cl.mk (c4) ?_|refine Cl.mk (MailNew_spec h.Caches.length (by omega)) ?_)
 rw [hpg]
 (conv=>whnf)
 refine Lp.mk (ι := Nat) (fun i => [(1, .hold .box (DHeap.enc .imm h)), (2, .hold .box zeroH), (7, .hold .box (DHeap.enc .own (caps { newHeap (pgN h) h.Kernel.Machine.Frames.Used.length h.Caches.length h.Limit [] with Kernel := k, Seed := h.Seed, Clock := h.Clock, Quar := ⟨0, []⟩ } i))), (8, .hold .one [I ((i : Nat) : Int)])]) (fun i => i ≤ h.Caches.length) (fun i => h.Caches.length - i) (0) ?_ (Nat.zero_le _) fun i hi => ?_
 ·repeat' (first|exact trivial|rfl |refine And.intro ?_ ?_|(exact wkI (by first|omega|(simp only; omega)|(simp; omega))))
 by_cases li : i < h.Caches.length
 ·repeat' ((conv=>whnf);first|with_reducible (first|refine Lm ?_|refine Wm (by omega) ?_|refine dT (by omega) (fun hq => ?_)|refine Bn ?_|refine Fm rfl ?_)|refine Bt ?_|refine Bu ?_|refine Sm.rf ?_|refine Cl.mk (CacheNew_spec) ?_|refine Ap.sn caps_row rfl (by rw [List.length_map]; show (List.replicate _ newCache).length + 1 ≤ _; rw [List.length_replicate]; omega) (by decide) (caps_snoc i) ?_)
  ((conv=>whnf);refine Nx.mk (i + 1) (by omega) (by omega) ?_; (repeat' (first|exact trivial|rfl|refine And.intro ?_ ?_|(exact wkI (by first|omega|(simp only; omega)|(simp; omega))))))
 ·obtain rfl : i = h.Caches.length := by omega
  repeat' ((conv=>whnf);first|with_reducible (first|refine Lm ?_|refine Wm (by omega) ?_|refine dF (by omega) (fun hq => ?_)|refine Bn ?_|refine Fm rfl ?_)|refine Bt ?_|refine Bu ?_|refine Sm.rf ?_|refine Cl.mk (QuarNew_spec) ?_)
  rfl
theorem HeapReset_impl (h : DHeap) (hs : DHeap.sml h) : CallsA Tryz.prog 9 false [.val (some 24) (DHeap.enc .imm h)] (.tup [some 24, none]) (DHeap.enc .own (reset h) ++ [B (resetOk h)]) := by
 have c1 := HeapOk_impl h hs
 rw [heap_same] at c1
 have c3 := copyHeap_impl h hs
 cases e1 : heapS h <;> rw [e1] at c1
 ·have er : resetOk h = false := by unfold resetOk; rw [e1]; rfl
  rw [reset_no er, er]
  refine fO (n := 54) [(4,274,[25,26,27,28,29,30,31,32,33,34,35,36,37,38,24,39,40,6,0,1,2,3,4,5,6,7,8,9,10,11,12,13,14,15,16,17,18,1016,19])] Tryz.func9 (by kernel_rfl) rfl (by kernel_rfl) (by rfl) (.inr (frL_append (DHeap.enc_fr _) ⟨trivial, trivial⟩)) ?_
  repeat' ((conv=>whnf);first|with_reducible (first|refine Lm ?_|refine Wm (by omega) ?_|refine Bn ?_|refine Fm rfl ?_)|refine Bt ?_|refine Bu ?_|refine Sm.rf ?_|refine Cl.mk (c1) ?_|refine Cl.mk (c3) ?_)
  rfl
 obtain ⟨b1, b2, b3, b4, b5, b6, b7, b8, b9, b10⟩ := heap_bounds e1
 by_cases e2 : h.Kernel.Calls = 100000
 ·have er : resetOk h = false := by unfold resetOk; rw [e1, decide_eq_false (fun n => n e2)]; rfl
  rw [reset_no er, er]
  refine fO (n := 54) [(4,274,[25,26,27,28,29,30,31,32,33,34,35,36,37,38,24,39,40,6,0,1,2,3,4,5,6,7,8,9,10,11,12,13,14,15,16,17,18,1016,19])] Tryz.func9 (by kernel_rfl) rfl (by kernel_rfl) (by rfl) (.inr (frL_append (DHeap.enc_fr _) ⟨trivial, trivial⟩)) ?_
  repeat' ((conv=>whnf);first|with_reducible (first|refine Lm ?_|refine Wm (by omega) ?_|refine eT (by omega) (fun hq => ?_)|refine Bn ?_|refine Fm rfl ?_)|refine Bt ?_|refine Bu ?_|refine Sm.rf ?_|refine Cl.mk (c1) ?_|refine Cl.mk (c3) ?_)
  rfl
 have er : resetOk h = true := by unfold resetOk; rw [e1, decide_eq_true e2]; rfl
 have c4 := HeapDestroy_impl h hs
 have c5 := HeapNew_impl (pgN h) h.Kernel.Machine.Frames.Used.length h.Caches.length h.Limit (by omega) (by omega) (by omega) (by omega)
 rw [reset_yes er, er]
 unfold resetH
 generalize destroyed h = d at c4 ⊢
 obtain ⟨k, m⟩ := d
 simp only at c4 ⊢
 refine fO (n := 54) [(4,274,[25,26,27,28,29,30,31,32,33,34,35,36,37,38,24,39,40,6,0,1,2,3,4,5,6,7,8,9,10,11,12,13,14,15,16,17,18,1016,19])] Tryz.func9 (by kernel_rfl) rfl (by kernel_rfl) (by rfl) (.inr (frL_append (DHeap.enc_fr _) ⟨trivial, trivial⟩)) ?_
 repeat' ((conv=>whnf);first|with_reducible (first|refine Lm ?_|refine Wm (by omega) ?_|refine eF (by omega) (fun hq => ?_)|refine Bn ?_|refine Fm rfl ?_)|refine Bt ?_|refine Bu ?_|refine Sm.rf ?_|refine Cl.mk (c1) ?_|refine Cl.mk (c4) ?_|refine Cl.mk (pagesOf_reset h) ?_|refine Cl.mk (c5) ?_)
 rfl
theorem reset_sml {h : DHeap} (hs : DHeap.sml h) : DHeap.sml (reset h) := by
 cases e : resetOk h with
 | false => rw [reset_no e]; exact hs
 | true =>
  rw [reset_yes e]
  obtain ⟨e1, e2⟩ := resetOk_yes e
  obtain ⟨b1, b2, b3, b4, b5, b6, b7, b8, b9, b10⟩ := heap_bounds e1
  obtain ⟨n1, n2, n3, n4, n5, n6, n7, n8, n9⟩ := newHeap_sml (p := pgN h) (f := h.Kernel.Machine.Frames.Used.length) (t := h.Caches.length) (lim := h.Limit) b2 b4 b6
  exact ⟨destroyed_sml hs, n2, n3, n4, n5, n6, n7, n8, n9⟩
theorem cntRep {α : Type} {f : α → Nat} {g : List α → Nat} (h0 : g [] = 0) (h1 : ∀ y ys, g (y :: ys) = f y + g ys) (a : α) (ha : f a = 0) : ∀ n, g (List.replicate n a) = 0
 | 0 => h0
 | n + 1 => by rw [List.replicate_succ, h1, ha, cntRep h0 h1 a ha n]
theorem reset_cnt {h : DHeap} (hc : DHeap.cnt h ≤ 8388608) : DHeap.cnt (reset h) ≤ 8388700 := by
 cases e : resetOk h with
 | false => rw [reset_no e]; omega
 | true =>
  rw [reset_yes e]
  have hk := destroyed_cnt hc
  have z1 : cntDCacheS (List.replicate h.Caches.length newCache) = 0 := cntRep rfl (fun _ _ => rfl) _ (by decide) _
  have z2 : cntDPostSS (List.replicate h.Caches.length ([] : List DPost)) = 0 := cntRep (g := cntDPostSS) rfl (fun _ _ => rfl) _ rfl _
  have z3 : cntIntSS (List.replicate h.Caches.length ([] : List Int)) = 0 := cntRep (g := cntIntSS) rfl (fun _ _ => rfl) _ rfl _
  have z4 : cntDRangeS [(⟨0, pgN h⟩ : DRange)] ≤ 10 := Nat.le_of_ble_eq_true rfl
  show DKernel.cnt (destroyed h).1 + cntDRangeS [(⟨0, pgN h⟩ : DRange)] + 0 + 0 + 0 + cntDCacheS (List.replicate h.Caches.length newCache) + (cntDPostSS (List.replicate h.Caches.length ([] : List DPost)) + cntIntSS (List.replicate h.Caches.length ([] : List Int))) + 0 + 0 ≤ 8388700
  omega
theorem HeapReset_law (h : DHeap) (hw : DHeap.wf h) : CallsA Tryz.prog 3 false [.val (some 24) (DHeap.enc .imm h)] .one [B true] := by
 by_cases hz : (DHeap.sz h : Int) ≤ 1048576
 ·have hs := DHeap.sml_of (x := h) (by omega)
  have hc := DHeap.cnt_le h
  have ds := reset_sml hs
  have dc := reset_cnt (h := h) (by omega)
  have cs := HeapReset_spec h hs hw
  have ci := HeapReset_impl h hs
  generalize reset h = d at ds dc cs ci
  generalize resetOk h = b at cs ci
  cases b
  all_goals
   refine fnOk (n := 96) (mo := [(11, [1, 0])]) (tb := [(10,3,[41,42,43])]) Tryz.func3 (by kernel_rfl) rfl (by kernel_rfl) (by rfl) (.inr ⟨trivial, trivial⟩) ?_
   repeat' ((conv=>whnf);first|with_reducible (first|refine Lm ?_|refine Wm (by omega) ?_|refine dF (by omega) (fun hq => ?_)|refine Bf.D (fun hq => ?_) (fun hq => absurd rfl hq)|refine Bf.N (fun hq => absurd rfl hq) (fun hq => ?_)|refine Bn ?_|refine Fm rfl ?_)|refine Bt ?_|refine Bu ?_|refine Sm.rf ?_|refine Cl.sz (szHeap_ok h _ (by omega) (by omega) hw) (fun hq => absurd hq (by omega)) (fun hq => ?_)|refine Cl.mk (toHeap_ok h hs) ?_|refine Cl.eq (cs) ⟨⟨rfl, DHeap.enc_fz h⟩, trivial⟩ ?_|refine Cl.eq (ci) ⟨⟨rfl, DHeap.enc_fz h⟩, trivial⟩ ?_|refine Cl.eq (eqHeap_ok d d ds) ⟨⟨rfl, DHeap.enc_fz d⟩, ⟨rfl, DHeap.enc_fz d⟩, trivial⟩ ?_|refine Cl.eq (eqHeap_ok h h hs) ⟨⟨rfl, DHeap.enc_fz h⟩, ⟨rfl, DHeap.enc_fz h⟩, trivial⟩ ?_|refine ClM.mk (markHeap_ok h 1 hs (by omega) (by omega)) (.inl rfl) ?_|refine ClM.mk (markHeap_ok d 1 ds (by omega) (by omega)) (.inl rfl) ?_|refine Cl.eq (heldHeap_ok d 1 ds (by omega) (by omega)) ⟨⟨rfl, DHeap.enc_fz (d.mark 1)⟩, ⟨rfl, rfl⟩, trivial⟩ ?_)
   all_goals rfl
 ·refine fnOk (n := 96) (mo := [(11, [1, 0])]) (tb := [(10,3,[41,42,43])]) Tryz.func3 (by kernel_rfl) rfl (by kernel_rfl) (by rfl) (.inr ⟨trivial, trivial⟩) ?_
  repeat' ((conv=>whnf);first|with_reducible (first|refine Lm ?_|refine Wm (by omega) ?_|refine dT (by omega) (fun hq => ?_)|refine Bn ?_|refine Fm rfl ?_)|refine Bt ?_|refine Bu ?_|refine Sm.rf ?_|refine Cl.sz (szHeap_ok h _ (by omega) (by omega) hw) (fun hq => ?_) (fun hq => absurd hq (by omega)))
  rfl
end Go.Proofs.YtogajjgmcnjkbaaGreat.Ab
