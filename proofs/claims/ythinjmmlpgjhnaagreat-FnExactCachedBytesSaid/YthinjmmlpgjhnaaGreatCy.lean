/- Contracts of CachedBytes, the reference's and the program's, and the law FnExactCachedBytes, walked. No condition. -/
import Derived.Test.YthinjmmlpgjhnaaGreatCc
import Derived.Test.YthinjmmlpgjhnaaGreatConTo
import Derived.Test.YthinjmmlpgjhnaaGreatConSz
import Derived.Test.YthinjmmlpgjhnaaGreatConEq
import Derived.Test.YthinjmmlpgjhnaaGreatConMark
import Derived.Test.YthinjmmlpgjhnaaGreatConHeld
namespace Go.Proofs.YthinjmmlpgjhnaaGreat.Ab
open Go.RowKit
set_option maxRecDepth 20000
set_option maxHeartbeats 4000000
theorem cells_take {l : List DCache} {i : Nat} {x : DCache} (h : l[i]? = some x) : (l.take (i + 1)).map cacheCells = (l.take i).map cacheCells ++ [cacheCells x] := by
  rw [List.take_add_one, h]; simp
theorem CachedBytes_spec (h : DHeap) (hs : smlDCacheS h.Caches) : CallsA Tryz.prog 14 false [.val (some 24) (DHeap.enc .imm h)] .one (rIntS .own (h.Caches.map cacheCells)) := by
  have hl := hs.1
  refine fnOk (n := 23) (mo := []) (tb := []) Tryz.func14 (by kernel_rfl) rfl (by kernel_rfl) (by rfl) (.inr (rIntS_fr _)) ?_
  repeat' ((conv => whnf); first | with_reducible (first | refine Ln.mk (List.length_map ..) ?_ | refine Wr.mk (wrapI (by omega) (by omega)) ?_ | refine Bf.not ?_ | refine Fin_.mk rfl ?_) | refine Bf.t rfl ?_ | refine Bf.f rfl ?_)
  (conv => whnf)
  refine Lp.mk (ι := Nat) (fun i => [(1, .hold .box (DHeap.enc .imm h)), (3, .hold .one (rIntS .own ((h.Caches.take i).map cacheCells))), (4, .hold .one [I (i : Nat)])]) (fun i => i ≤ h.Caches.length) (fun i => h.Caches.length - i) 0 ?_ (Nat.zero_le _) fun i hi => ?_
  · repeat' (first | exact trivial | rfl | refine And.intro ?_ ?_)
  · by_cases hlt : i < h.Caches.length
    · obtain ⟨x, hx⟩ : ∃ x, h.Caches[i]? = some x := ⟨_, List.getElem?_eq_getElem hlt⟩
      repeat' ((conv => whnf); first | with_reducible (first | refine Ln.mk (List.length_map ..) ?_ | refine Wr.mk (wrapI (by omega) (by omega)) ?_ | refine Ix.nat (get_map hx) ?_ | refine Bf.D (fun hq => ?_) (fun hq => absurd hq (by omega)) | refine Bf.not ?_ | refine Fin_.mk rfl ?_) | refine Bf.t rfl ?_ | refine Bf.f rfl ?_ | refine Cl.mk (CacheCells_spec x (hs.2 x (List.mem_of_getElem? hx))) ?_ | refine Ap.mk rowI_one (fun r hr => by rw [List.mem_singleton.1 hr]; rfl) (by simp [noOwn, isOwn]) (by simp; omega) (by simp only [List.length_map]; exact mkB (by simp; omega) (by decide)) rfl ?_ | refine Nx.mk (i + 1) (by omega) (by omega) ?_)
      rw [cells_take hx]
      repeat' (first | exact trivial | rfl | exact And.intro rfl (And.intro (congrArg (C.s Own.own) (by simp [rI])) trivial) | refine And.intro ?_ ?_)
    · repeat' ((conv => whnf); first | with_reducible (first | refine Ln.mk (List.length_map ..) ?_ | refine Wr.mk (wrapI (by omega) (by omega)) ?_ | refine Bf.D (fun hq => absurd hq (by omega)) (fun hq => ?_) | refine Bf.not ?_ | refine Fin_.mk rfl ?_) | refine Bf.t rfl ?_ | refine Bf.f rfl ?_)
      rw [List.take_of_length_le (by omega)]
      rfl
theorem CachedBytes_impl (h : DHeap) (hs : smlDCacheS h.Caches) : CallsA Tryz.prog 15 false [.val (some 24) (DHeap.enc .imm h)] .one (rIntS .own (h.Caches.map cacheCells)) := by
  have hl := hs.1
  refine fnOk (n := 21) (mo := []) (tb := []) Tryz.func15 (by kernel_rfl) rfl (by kernel_rfl) (by rfl) (.inr (rIntS_fr _)) ?_
  repeat' ((conv => whnf); first | with_reducible (first | refine Ln.mk (List.length_map ..) ?_ | refine Wr.mk (wrapI (by omega) (by omega)) ?_ | refine Bf.not ?_ | refine Fin_.mk rfl ?_) | refine Bf.t rfl ?_ | refine Bf.f rfl ?_)
  (conv => whnf)
  refine Lp.mk (ι := Nat) (fun i => [(3, .hold .one (rIntS .own ((h.Caches.take i).map cacheCells))), (8, .hold .one (rDCacheS .imm h.Caches)), (9, .hold .one [I h.Caches.length]), (10, .hold .one [I (i : Nat)])]) (fun i => i ≤ h.Caches.length) (fun i => h.Caches.length - i) 0 ?_ (Nat.zero_le _) fun i hi => ?_
  · repeat' (first | exact trivial | rfl | refine And.intro ?_ ?_)
  · by_cases hlt : i < h.Caches.length
    · obtain ⟨x, hx⟩ : ∃ x, h.Caches[i]? = some x := ⟨_, List.getElem?_eq_getElem hlt⟩
      repeat' ((conv => whnf); first | with_reducible (first | refine Ln.mk (List.length_map ..) ?_ | refine Wr.mk (wrapI (by omega) (by omega)) ?_ | refine Ix.nat (get_map hx) ?_ | refine Bf.D (fun hq => ?_) (fun hq => absurd hq (by omega)) | refine Bf.not ?_ | refine Fin_.mk rfl ?_) | refine Bf.t rfl ?_ | refine Bf.f rfl ?_ | refine Cl.mk (CacheCells_impl x (hs.2 x (List.mem_of_getElem? hx))) ?_ | refine Ap.mk rowI_one (fun r hr => by rw [List.mem_singleton.1 hr]; rfl) (by simp [noOwn, isOwn]) (by simp; omega) (by simp only [List.length_map]; exact mkB (by simp; omega) (by decide)) rfl ?_ | refine Nx.mk (i + 1) (by omega) (by omega) ?_)
      rw [cells_take hx]
      repeat' (first | exact trivial | rfl | exact And.intro rfl (And.intro (congrArg (C.s Own.own) (by simp [rI])) trivial) | refine And.intro ?_ ?_)
    · repeat' ((conv => whnf); first | with_reducible (first | refine Ln.mk (List.length_map ..) ?_ | refine Wr.mk (wrapI (by omega) (by omega)) ?_ | refine Bf.D (fun hq => absurd hq (by omega)) (fun hq => ?_) | refine Bf.not ?_ | refine Fin_.mk rfl ?_) | refine Bf.t rfl ?_ | refine Bf.f rfl ?_)
      rw [List.take_of_length_le (by omega)]
      rfl
theorem CachedBytes_law (h : DHeap) (hw : DHeap.wf h) : CallsA Tryz.prog 4 false [.val (some 24) (DHeap.enc .imm h)] .one [B true] := by
  by_cases hz : (DHeap.sz h : Int) ≤ 1048576
  · have hs := DHeap.sml_of (x := h) (by omega)
    have hc := DHeap.cnt_le h
    have ho : smlDCacheS h.Caches := hs.2.2.2.2.2.1
    have hol2 := ho.1
    have hol : (h.Caches.map cacheCells).length = h.Caches.length := List.length_map ..
    have hls : smlIntS (h.Caches.map cacheCells) := by unfold smlIntS; omega
    refine fnOk (n := 69) (mo := [(11, [1, 0]), (12, [1, 0])]) (tb := [(10, 5, [27, 28, 29, 30, 31])]) Tryz.func4 (by kernel_rfl) rfl (by kernel_rfl) (by rfl) (.inr ⟨trivial, trivial⟩) ?_
    repeat' ((conv => whnf); first | with_reducible (first | refine Ln.mk (List.length_map ..) ?_ | refine Wr.mk (wrapI (by omega) (by omega)) ?_ | refine Bf.D (fun hq => absurd hq (by omega)) (fun hq => ?_) | refine Bf.D (fun hq => ?_) (fun hq => absurd rfl hq) | refine Bf.N (fun hq => absurd rfl hq) (fun hq => ?_) | refine Bf.not ?_ | refine Fin_.mk rfl ?_) | refine Bf.t rfl ?_ | refine Bf.f rfl ?_ | refine Cl.sz (szHeap_ok h _ (by omega) (by omega) hw) (fun hq => absurd hq (by omega)) (fun hq => ?_) | refine Cl.mk (toHeap_ok h hs) ?_ | refine Cl.eq (CachedBytes_spec h ho) ⟨⟨rfl, DHeap.enc_fz h⟩, trivial⟩ ?_ | refine Cl.eq (CachedBytes_impl h ho) ⟨⟨rfl, DHeap.enc_fz h⟩, trivial⟩ ?_ | refine Cl.eq (eqIntS_ok (h.Caches.map cacheCells) (h.Caches.map cacheCells) hls) ⟨⟨rfl, rIntS_fz _⟩, ⟨rfl, rIntS_fz _⟩, trivial⟩ ?_ | refine Cl.eq (eqHeap_ok h h hs) ⟨⟨rfl, DHeap.enc_fz h⟩, ⟨rfl, DHeap.enc_fz h⟩, trivial⟩ ?_ | refine Cl.eq (heldIntS_ok (h.Caches.map cacheCells) 1 hls (by omega) (by unfold cntIntS; omega)) ⟨⟨rfl, rIntS_fz _⟩, ⟨rfl, rfl⟩, trivial⟩ ?_ | refine ClM.mk (markHeap_ok h 1 hs (by omega) (by omega)) (.inl rfl) ?_ | refine ClM.mk (markIntS_ok (h.Caches.map cacheCells) 1 hls (by omega) (by unfold cntIntS; omega)) (.inl rfl) ?_)
    rfl
  · refine fnOk (n := 69) (mo := [(11, [1, 0]), (12, [1, 0])]) (tb := [(10, 5, [27, 28, 29, 30, 31])]) Tryz.func4 (by kernel_rfl) rfl (by kernel_rfl) (by rfl) (.inr ⟨trivial, trivial⟩) ?_
    repeat' ((conv => whnf); first | with_reducible (first | refine Ln.mk (List.length_map ..) ?_ | refine Wr.mk (wrapI (by omega) (by omega)) ?_ | refine Bf.D (fun hq => ?_) (fun hq => absurd hq (by omega)) | refine Bf.not ?_ | refine Fin_.mk rfl ?_) | refine Bf.t rfl ?_ | refine Bf.f rfl ?_ | refine Cl.sz (szHeap_ok h _ (by omega) (by omega) hw) (fun hq => ?_) (fun hq => absurd hq (by omega)))
    rfl
end Go.Proofs.YthinjmmlpgjhnaaGreat.Ab
