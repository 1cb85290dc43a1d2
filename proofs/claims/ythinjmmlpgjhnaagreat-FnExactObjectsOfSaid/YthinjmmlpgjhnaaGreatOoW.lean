/- The law FnExactObjectsOf, walked: it returns true, whatever heap it is handed. No condition. -/
import Derived.Test.YthinjmmlpgjhnaaGreatOo
import Derived.Test.YthinjmmlpgjhnaaGreatConTo
import Derived.Test.YthinjmmlpgjhnaaGreatConSz
import Derived.Test.YthinjmmlpgjhnaaGreatConEq
import Derived.Test.YthinjmmlpgjhnaaGreatConMark
import Derived.Test.YthinjmmlpgjhnaaGreatConHeld
namespace Go.Proofs.YthinjmmlpgjhnaaGreat.Ab
open Go.RowKit
set_option maxRecDepth 20000
set_option maxHeartbeats 4000000
theorem ObjectsOf_law (h : DHeap) (t : Int) (hw : DHeap.wf h) : CallsA Tryz.prog 3 false [.val (some 24) (DHeap.enc .imm h), .val none [I t]] .one [B true] := by
  by_cases hz : (DHeap.sz h : Int) ≤ 1048576
  · have hs := DHeap.sml_of (x := h) (by omega)
    have hc := DHeap.cnt_le h
    have ho : smlDObjS h.Objs := hs.2.2.2.2.1
    have hol := objsOf_le h.Objs t
    have hol2 := ho.1
    have hls : smlIntS (objsOf h.Objs t) := by unfold smlIntS; omega
    refine fnOk (n := 74) (mo := [(11, [1, 0]), (12, [1, 0])]) (tb := [(10, 5, [31, 32, 33, 34, 35])]) Tryz.func3 (by kernel_rfl) rfl (by kernel_rfl) (by rfl) (.inr ⟨trivial, trivial⟩) ?_
    repeat' ((conv => whnf); first | with_reducible (first | refine Ln.mk (List.length_map ..) ?_ | refine Wr.mk (wrapI (by omega) (by omega)) ?_ | refine Bf.D (fun hq => absurd hq (by omega)) (fun hq => ?_) | refine Bf.D (fun hq => ?_) (fun hq => absurd rfl hq) | refine Bf.N (fun hq => absurd rfl hq) (fun hq => ?_) | refine Bf.not ?_ | refine Fin_.mk rfl ?_) | refine Bf.t rfl ?_ | refine Bf.f rfl ?_ | refine Cl.sz (szHeap_ok h _ (by omega) (by omega) hw) (fun hq => absurd hq (by omega)) (fun hq => ?_) | refine Cl.mk (toHeap_ok h hs) ?_ | refine Cl.eq (ObjectsOf_spec h t ho) ⟨⟨rfl, DHeap.enc_fz h⟩, ⟨rfl, rfl⟩, trivial⟩ ?_ | refine Cl.eq (ObjectsOf_impl h t ho) ⟨⟨rfl, DHeap.enc_fz h⟩, ⟨rfl, rfl⟩, trivial⟩ ?_ | refine Cl.eq (eqIntS_ok (objsOf h.Objs t) (objsOf h.Objs t) hls) ⟨⟨rfl, rIntS_fz _⟩, ⟨rfl, rIntS_fz _⟩, trivial⟩ ?_ | refine Cl.eq (eqHeap_ok h h hs) ⟨⟨rfl, DHeap.enc_fz h⟩, ⟨rfl, DHeap.enc_fz h⟩, trivial⟩ ?_ | refine Cl.eq (heldIntS_ok (objsOf h.Objs t) 1 hls (by omega) (by unfold cntIntS; omega)) ⟨⟨rfl, rIntS_fz _⟩, ⟨rfl, rfl⟩, trivial⟩ ?_ | refine ClM.mk (markHeap_ok h 1 hs (by omega) (by omega)) (.inl rfl) ?_ | refine ClM.mk (markIntS_ok (objsOf h.Objs t) 1 hls (by omega) (by unfold cntIntS; omega)) (.inl rfl) ?_)
    rfl
  · refine fnOk (n := 74) (mo := [(11, [1, 0]), (12, [1, 0])]) (tb := [(10, 5, [31, 32, 33, 34, 35])]) Tryz.func3 (by kernel_rfl) rfl (by kernel_rfl) (by rfl) (.inr ⟨trivial, trivial⟩) ?_
    repeat' ((conv => whnf); first | with_reducible (first | refine Bf.D (fun hq => ?_) (fun hq => absurd hq (by omega)) | refine Fin_.mk rfl ?_) | refine Bf.t rfl ?_ | refine Bf.f rfl ?_ | refine Cl.sz (szHeap_ok h _ (by omega) (by omega) hw) (fun hq => ?_) (fun hq => absurd hq (by omega)))
    rfl
end Go.Proofs.YthinjmmlpgjhnaaGreat.Ab
