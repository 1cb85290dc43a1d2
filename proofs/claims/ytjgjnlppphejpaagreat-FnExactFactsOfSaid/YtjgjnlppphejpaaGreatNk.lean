/- The facts of a heap: the program's function; and the law FnExactFactsOf, walked. No condition. -/
import Derived.Test.YtjgjnlppphejpaaGreatMp
import Derived.Test.YtjgjnlppphejpaaGreatMl
namespace Go.Proofs.YtjgjnlppphejpaaGreat.Ab
open Go.RowKit
set_option maxRecDepth 20000
set_option maxHeartbeats 4000000
theorem FactsOf_impl (h : DHeap) (hs : DHeap.sml h) : CallsA Tryz.prog 24 false [.val (some 24) (DHeap.enc .imm h)] .one (rDFactS .own (factsOf h)) := by
  have c1 := HeapOk_impl h hs
  rw [heap_same] at c1
  have hlo : h.Objs.length ≤ 1048576 := hs.2.2.2.2.1.1
  cases e1 : heapS h <;> rw [e1] at c1
  · rw [show factsOf h = [] by unfold factsOf; rw [e1]; rfl]
    refine fnOk (n := 53) (mo := [(93, [1, 0])]) (tb := []) Tryz.func24 (by kernel_rfl) rfl (by kernel_rfl) (by rfl) (.inr (rDFactS_fr _)) ?_
    repeat' ((conv => whnf); first | with_reducible (first | refine Ln.mk (List.length_map ..) ?_ | refine Wr.mk (wrapI (by omega) (by omega)) ?_ | refine Bf.not ?_ | refine Fin_.wk rfl ?_) | refine Bf.t rfl ?_ | refine Bf.f rfl ?_ | refine Cl.mk (c1) ?_)
    exact ⟨rfl, trivial⟩
  · have hk := heapS_kernel e1
    have hop := obj_pos e1
    have hnx := next_bd e1
    refine fnOk (n := 53) (mo := [(93, [1, 0])]) (tb := []) Tryz.func24 (by kernel_rfl) rfl (by kernel_rfl) (by rfl) (.inr (rDFactS_fr _)) ?_
    repeat' ((conv => whnf); first | with_reducible (first | refine Ln.mk (List.length_map ..) ?_ | refine Wr.mk (wrapI (by omega) (by omega)) ?_ | refine Bf.not ?_ | refine Fin_.wk rfl ?_) | refine Bf.t rfl ?_ | refine Bf.f rfl ?_ | refine Cl.mk (c1) ?_)
    (conv => whnf)
    refine Lp.mk (ι := Nat) (fun i => [(1, .hold .box (DHeap.enc .imm h)), (3, .hold .one (rDFactS .own ((h.Objs.take i).map (factOf h.Kernel)))), (14, .hold .one (rDObjS .imm h.Objs)), (15, .hold .one [I (h.Objs.length)]), (16, .hold .one [I ((i : Nat) : Int)])]) (fun i => i ≤ h.Objs.length) (fun i => h.Objs.length - i) (0) ?_ (Nat.zero_le _) fun i hi => ?_
    · repeat' (first | exact trivial | rfl  | refine And.intro ?_ ?_ | (exact wkI (by first | omega | (simp only; omega) | (simp; omega))))
    by_cases li : i < h.Objs.length
    · have hx := get_nth li
      obtain ⟨b1, b2, b3, b4, b5, b6, -⟩ := obj_bd e1 li
      have c2 := cellsAt_impl h (nth h.Objs i).Addr (nth h.Objs i).Size hk (by omega) (by omega)
      have hcl := cellsOf_len h.Kernel (nth h.Objs i).Addr (nth h.Objs i).Size.toNat
      repeat' ((conv => whnf); first | with_reducible (first | refine Ln.mk (List.length_map ..) ?_ | refine Wr.mk (wrapI (by omega) (by omega)) ?_ | refine Ix.nat (get_map hx) ?_ | refine Bf.D (fun hq => ?_) (fun hq => absurd hq (by omega)) | refine Bf.not ?_ | refine Fin_.mk rfl ?_) | refine Bf.t rfl ?_ | refine Bf.f rfl ?_ | refine Cl.mk (c2) ?_)
      (conv => whnf)
      refine Lp.mk (ι := Nat) (fun q => [(1, .hold .box (DHeap.enc .imm h)), (3, .hold .one (rDFactS .own ((h.Objs.take i).map (factOf h.Kernel)))), (14, .hold .one (rDObjS .imm h.Objs)), (15, .hold .one [I (h.Objs.length)]), (16, .hold .one [I ((i : Nat) : Int)]), (5, .hold .box (DObj.enc .imm (nth h.Objs i))), (6, .hold .one [I (sumN (cellsOf h.Kernel (nth h.Objs i).Addr (nth h.Objs i).Size.toNat) q)]), (25, .hold .one (rIntS .own (cellsOf h.Kernel (nth h.Objs i).Addr (nth h.Objs i).Size.toNat))), (26, .hold .one [I ((nth h.Objs i).Size.toNat)]), (27, .hold .one [I ((q : Nat) : Int)])]) (fun q => q ≤ (nth h.Objs i).Size.toNat) (fun q => (nth h.Objs i).Size.toNat - q) (0) ?_ (Nat.zero_le _) fun q hq => ?_
      · repeat' (first | exact trivial | rfl  | refine And.intro ?_ ?_ | (exact wkI (by first | omega | (simp only; omega) | (simp; omega))))
      have hfa := sumN_bd (cellsOf h.Kernel (nth h.Objs i).Addr (nth h.Objs i).Size.toNat) q
      by_cases lq : q < (nth h.Objs i).Size.toNat
      · have hy := cellsOf_get h.Kernel (nth h.Objs i).Addr lq
        have hv := cellOf_bd hk ((nth h.Objs i).Addr + (q : Int))
        have hst := sum_step (k := (q : Int) + 1) hv (by omega)
        have hmod : (sumN (cellsOf h.Kernel (nth h.Objs i).Addr (nth h.Objs i).Size.toNat) q + ((q : Int) + 1) * cellOf h.Kernel ((nth h.Objs i).Addr + (q : Int))).tmod 9973 = sumN (cellsOf h.Kernel (nth h.Objs i).Addr (nth h.Objs i).Size.toNat) (q + 1) := by
          rw [tmod_pos (by omega), sumN, nth_of hy]
        repeat' ((conv => whnf); first | with_reducible (first | refine Ln.mk (List.length_map ..) ?_ | refine Wr.mk (wrapI (by omega) (by omega)) ?_ | refine Ix.nat (get_map hy) ?_ | refine Bf.D (fun hq => ?_) (fun hq => absurd hq (by omega)) | refine Bf.not ?_ | refine Fin_.mk rfl ?_) | refine Bf.t rfl ?_ | refine Bf.f rfl ?_ | refine Rw.one rfl (get_map hy) rfl ?_ | refine Cd.mk (by decide) ?_ | refine Ev.mk hmod ?_)
        ((conv => whnf); refine Nx.mk (q + 1) (by omega) (by omega) ?_; (repeat' (first | exact trivial | rfl | refine And.intro ?_ ?_ | (exact wkI (by first | omega | (simp only; omega) | (simp; omega))))))
      · obtain rfl : q = (nth h.Objs i).Size.toNat := by omega
        repeat' ((conv => whnf); first | with_reducible (first | refine Ln.mk (List.length_map ..) ?_ | refine Wr.mk (wrapI (by omega) (by omega)) ?_ | refine Bf.D (fun hq => absurd hq (by omega)) (fun hq => ?_) | refine Bf.not ?_ | refine Fin_.mk rfl ?_) | refine Bf.t rfl ?_ | refine Bf.f rfl ?_ | refine Ap.sl (map_one fun _ => rfl) rfl (by simp; omega) (by decide) rfl ?_)
        (conv => whnf)
        refine Nx.mk (i + 1) (by omega) (by omega) ?_
        rw [rows_snoc li]
        (repeat' (first | exact trivial | rfl | exact And.intro rfl (And.intro (congrArg (C.s Own.own) (by simp [DFact.enc, factOf])) trivial) | refine And.intro ?_ ?_))
    · obtain rfl : i = h.Objs.length := by omega
      rw [List.take_length]
      repeat' ((conv => whnf); first | with_reducible (first | refine Ln.mk (List.length_map ..) ?_ | refine Wr.mk (wrapI (by omega) (by omega)) ?_ | refine Bf.D (fun hq => absurd hq (by omega)) (fun hq => ?_) | refine Bf.not ?_ | refine Fin_.mk rfl ?_) | refine Bf.t rfl ?_ | refine Bf.f rfl ?_ | refine ClM.mk (SortFunc_facts (h.Objs.map (factOf h.Kernel)) (factsOf h) (fun x hx => by obtain ⟨o, ho, rfl⟩ := List.mem_map.1 hx; have := hop o ho; exact ⟨by show 0 ≤ o.Id; omega, by show o.Id ≤ 1000000; omega⟩) (by rw [List.length_map]; omega) (fun zs hp hz => factsOf_sorted e1 hp hz)) (.inl rfl) ?_)
      rfl
theorem FactsOf_law (h : DHeap) (hw : DHeap.wf h) : CallsA Tryz.prog 6 false [.val (some 24) (DHeap.enc .imm h)] .one [B true] := by
  by_cases hz : (DHeap.sz h : Int) ≤ 1048576
  · have hs := DHeap.sml_of (x := h) (by omega)
    have hc := DHeap.cnt_le h
    have cs := FactsOf_spec h hs hw
    have ci := FactsOf_impl h hs
    have hlo : h.Objs.length ≤ 1048576 := hs.2.2.2.2.1.1
    have hfl : (factsOf h).length ≤ 1048576 := by
      cases e1 : heapS h with
      | true => rw [factsOf_len e1]; exact hlo
      | false => unfold factsOf; rw [e1]; simp
    have ds : smlDFactS (factsOf h) := ⟨hfl, fun _ _ => trivial⟩
    have dc := cntDFactS_le (factsOf h)
    unfold szDFactS at dc
    generalize factsOf h = xs at ds dc cs ci hfl
    refine fnOk (n := 69) (mo := [(15, [1, 0]), (26, [1, 0])]) (tb := [(10,3,[27,28,29])]) Tryz.func6 (by kernel_rfl) rfl (by kernel_rfl) (by rfl) (.inr ⟨trivial, trivial⟩) ?_
    repeat' ((conv => whnf); first | with_reducible (first | refine Ln.mk (List.length_map ..) ?_ | refine Wr.mk (wrapI (by omega) (by omega)) ?_ | refine Bf.D (fun hq => absurd hq (by omega)) (fun hq => ?_) | refine Bf.D (fun hq => ?_) (fun hq => absurd rfl hq) | refine Bf.N (fun hq => absurd rfl hq) (fun hq => ?_) | refine Bf.not ?_ | refine Fin_.mk rfl ?_) | refine Bf.t rfl ?_ | refine Bf.f rfl ?_ | refine Cl.sz (szHeap_ok h _ (by omega) (by omega) hw) (fun hq => absurd hq (by omega)) (fun hq => ?_) | refine Cl.mk (toHeap_ok h hs) ?_ | refine Cl.eq (cs) ⟨⟨rfl, DHeap.enc_fz h⟩, trivial⟩ ?_ | refine Cl.eq (ci) ⟨⟨rfl, DHeap.enc_fz h⟩, trivial⟩ ?_ | refine Cl.eq (eqFactS_ok xs xs ds) ⟨⟨rfl, rDFactS_fz xs⟩, ⟨rfl, rDFactS_fz xs⟩, trivial⟩ ?_ | refine Cl.eq (eqHeap_ok h h hs) ⟨⟨rfl, DHeap.enc_fz h⟩, ⟨rfl, DHeap.enc_fz h⟩, trivial⟩ ?_ | refine ClM.mk (markHeap_ok h 1 hs (by omega) (by omega)) (.inl rfl) ?_ | refine ClM.mk (markFactS_ok xs 1 ds (by omega) (by omega)) (.inl rfl) ?_ | refine Cl.eq (heldFactS_ok xs 1 ds (by omega) (by omega)) ⟨⟨rfl, rDFactS_fz _⟩, ⟨rfl, rfl⟩, trivial⟩ ?_)
    all_goals rfl
  · refine fnOk (n := 69) (mo := [(15, [1, 0]), (26, [1, 0])]) (tb := [(10,3,[27,28,29])]) Tryz.func6 (by kernel_rfl) rfl (by kernel_rfl) (by rfl) (.inr ⟨trivial, trivial⟩) ?_
    repeat' ((conv => whnf); first | with_reducible (first | refine Ln.mk (List.length_map ..) ?_ | refine Wr.mk (wrapI (by omega) (by omega)) ?_ | refine Bf.D (fun hq => ?_) (fun hq => absurd hq (by omega)) | refine Bf.not ?_ | refine Fin_.mk rfl ?_) | refine Bf.t rfl ?_ | refine Bf.f rfl ?_ | refine Cl.sz (szHeap_ok h _ (by omega) (by omega) hw) (fun hq => ?_) (fun hq => absurd hq (by omega)))
    rfl
end Go.Proofs.YtjgjnlppphejpaaGreat.Ab
