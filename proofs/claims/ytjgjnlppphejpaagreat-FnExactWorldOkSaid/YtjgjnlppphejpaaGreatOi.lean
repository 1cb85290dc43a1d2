/- Whether a world is right: the reference's and the program's functions; and the law FnExactWorldOk, walked. No condition. -/
import Derived.Test.YtjgjnlppphejpaaGreatMo
import Derived.Test.YtjgjnlppphejpaaGreatMl
namespace Go.Proofs.YtjgjnlppphejpaaGreat.Ab
open Go.RowKit
set_option maxRecDepth 20000
set_option maxHeartbeats 4000000
theorem worldOk_1 {w : DWorld} (h : refSame w.Heap w.Ref = false) : worldOk w = false := by unfold worldOk; rw [h]; rfl
theorem worldOk_2 {w : DWorld} (h : accFits (accountOf w.Heap) = false) : worldOk w = false := by unfold worldOk; rw [h]; simp
theorem worldOk_3 {w : DWorld} (h1 : refSame w.Heap w.Ref = true) (h2 : accFits (accountOf w.Heap) = true) : worldOk w = allN (pgN w.Heap) (clearAt w.Heap) := by unfold worldOk; rw [h1, h2]; rfl
theorem refSame_heap {h : DHeap} {r : DRefHeap} (e : refSame h r = true) : heapS h = true := by unfold refSame at e; simp only [Bool.and_eq_true] at e; exact e.1.1
theorem WorldOk_spec (w : DWorld) (hs : DWorld.sml w) (hw : DWorld.wf w) : CallsA Tryz.prog 19 false [.val (some 26) (DWorld.enc .imm w)] .one [B (worldOk w)] := by
 obtain ⟨hsh, hsr⟩ := hs
 have c1 := RefSame_spec w.Heap w.Ref hsh hw.1 hsr
 cases e1 : refSame w.Heap w.Ref <;> rw [e1] at c1
 ·refine fO (n := 60) [] Tryz.func19 (by kernel_rfl) rfl (by kernel_rfl) (by rfl) (.inr ⟨trivial, trivial⟩) ?_
  repeat' ((conv=>whnf);first|with_reducible (first|refine Lm ?_|refine Wm (by omega) ?_|refine Bn ?_|refine Fm rfl ?_)|refine Bt ?_|refine Bu ?_|refine Cl.mk (c1) ?_)
  exact congrArg (fun z => [B z]) ((worldOk_1 e1).symm)
 have hh := refSame_heap e1
 have hpe : pgN w.Heap = w.Heap.Kernel.Machine.Table.Entries.length := rfl
 have hpn : pgN w.Heap ≤ 1048576 := hsh.1.1.2.1
 have c2 := Leaks_spec w.Heap hsh hh
 have c3 := AccountOf_spec w.Heap hsh hw.1 hh
 have c4 := AccountFits_spec (accountOf w.Heap)
 cases e2 : accFits (accountOf w.Heap) <;> rw [e2] at c4
 ·refine fO (n := 60) [] Tryz.func19 (by kernel_rfl) rfl (by kernel_rfl) (by rfl) (.inr ⟨trivial, trivial⟩) ?_
  repeat' ((conv=>whnf);first|with_reducible (first|refine Lm ?_|refine Wm (by omega) ?_|refine dF (by omega) (fun hq => ?_)|refine Bn ?_|refine Fm rfl ?_)|refine Bt ?_|refine Bu ?_|refine Cl.mk (c1) ?_|refine Cl.mk (c2) ?_|refine Cl.mk (c3) ?_|refine Cl.mk (c4) ?_)
  exact congrArg (fun z => [B z]) ((worldOk_2 e2).symm)
 rw [worldOk_3 e1 e2]
 refine fO (n := 60) [] Tryz.func19 (by kernel_rfl) rfl (by kernel_rfl) (by rfl) (.inr ⟨trivial, trivial⟩) ?_
 repeat' ((conv=>whnf);first|with_reducible (first|refine Lm ?_|refine Wm (by omega) ?_|refine dF (by omega) (fun hq => ?_)|refine Bn ?_|refine Fm rfl ?_)|refine Bt ?_|refine Bu ?_|refine Cl.mk (c1) ?_|refine Cl.mk (c2) ?_|refine Cl.mk (c3) ?_|refine Cl.mk (c4) ?_)
 (conv=>whnf)
 refine Lp.mk (ι := Nat) (fun p => [(3, .hold .box (DHeap.enc .imm w.Heap)), (4, .hold .one [I ((p : Nat) : Int)])]) (fun p => p ≤ pgN w.Heap ∧ allN p (clearAt w.Heap) = true) (fun p => pgN w.Heap - p) 0 ?_ ⟨Nat.zero_le _, rfl⟩ fun p hp => ?_
 ·repeat' (first|exact trivial|rfl|refine And.intro ?_ ?_|(exact wkI (by first|omega|(simp only; omega)|(simp; omega))))
 obtain ⟨hp, ap⟩ := hp
 by_cases lp : p < pgN w.Heap
 ·have hx : w.Heap.Kernel.Machine.Table.Entries[p]? = some (nth w.Heap.Kernel.Machine.Table.Entries p) := get_nth lp
  by_cases em : (nth w.Heap.Kernel.Machine.Table.Entries p).Mode = 0
  ·repeat' ((conv=>whnf);first|with_reducible (first|refine Lm ?_|refine Wm (by omega) ?_|refine Ix.nat (get_map hx) ?_|refine dT (by omega) (fun hq => ?_)|refine eT (by omega) (fun hq => ?_)|refine Bn ?_|refine Fm rfl ?_)|refine Bt ?_|refine Bu ?_)
   ((conv=>whnf);refine Nx.mk (p + 1) ⟨by omega, allN_yes ap (by unfold clearAt; rw [decide_eq_true (show (nth (tbl w.Heap).Entries p).Mode = 0 from em)]; rfl)⟩ (by omega) ?_; (repeat' (first|exact trivial|rfl|refine And.intro ?_ ?_|(exact wkI (by first|omega|(simp only; omega)|(simp; omega))))))
  ·have hm0 : decide ((nth (tbl w.Heap).Entries p).Mode = 0) = false := decide_eq_false em
   have c5 := PageClear_spec w.Heap p hsh hw.1 hh lp em
   cases eg : w.Heap.Meshing
   ·cases ec : pageClear w.Heap p <;> rw [ec] at c5
    ·repeat' ((conv=>whnf);first|with_reducible (first|refine Lm ?_|refine Wm (by omega) ?_|refine Ix.nat (get_map hx) ?_|refine dT (by omega) (fun hq => ?_)|refine eF (by omega) (fun hq => ?_)|refine Bn ?_|refine Fm rfl ?_)|refine Bt ?_|refine Bu ?_|refine Cl.mk (c5) ?_|refine Bf.t eg ?_|refine Bf.f eg ?_)
     exact congrArg (fun z => [B z]) ((allN_no lp (by unfold clearAt; rw [hm0, eg, ec]; rfl)).symm)
    ·repeat' ((conv=>whnf);first|with_reducible (first|refine Lm ?_|refine Wm (by omega) ?_|refine Ix.nat (get_map hx) ?_|refine dT (by omega) (fun hq => ?_)|refine eF (by omega) (fun hq => ?_)|refine Bn ?_|refine Fm rfl ?_)|refine Bt ?_|refine Bu ?_|refine Cl.mk (c5) ?_|refine Bf.t eg ?_|refine Bf.f eg ?_)
     ((conv=>whnf);refine Nx.mk (p + 1) ⟨by omega, allN_yes ap (by unfold clearAt; rw [ec]; simp)⟩ (by omega) ?_; (repeat' (first|exact trivial|rfl|refine And.intro ?_ ?_|(exact wkI (by first|omega|(simp only; omega)|(simp; omega))))))
   ·by_cases ek : ((p : Nat) : Int) = w.Heap.Job.Plan.Keep
    ·repeat' ((conv=>whnf);first|with_reducible (first|refine Lm ?_|refine Wm (by omega) ?_|refine Ix.nat (get_map hx) ?_|refine dT (by omega) (fun hq => ?_)|refine eT (by omega) (fun hq => ?_)|refine eF (by omega) (fun hq => ?_)|refine Bf.E (fun hq => ?_) (fun hq => ?_)|refine Bn ?_|refine Fm rfl ?_)|refine Bt ?_|refine Bu ?_|refine Cl.mk (c5) ?_|refine Bf.t eg ?_|refine Bf.f eg ?_)
     ((conv=>whnf);refine Nx.mk (p + 1) ⟨by omega, allN_yes ap (by unfold clearAt; rw [eg, decide_eq_true ek]; simp)⟩ (by omega) ?_; (repeat' (first|exact trivial|rfl|refine And.intro ?_ ?_|(exact wkI (by first|omega|(simp only; omega)|(simp; omega))))))
    ·cases ec : pageClear w.Heap p <;> rw [ec] at c5
     ·repeat' ((conv=>whnf);first|with_reducible (first|refine Lm ?_|refine Wm (by omega) ?_|refine Ix.nat (get_map hx) ?_|refine dT (by omega) (fun hq => ?_)|refine eT (by omega) (fun hq => ?_)|refine eF (by omega) (fun hq => ?_)|refine Bf.E (fun hq => ?_) (fun hq => ?_)|refine Bn ?_|refine Fm rfl ?_)|refine Bt ?_|refine Bu ?_|refine Cl.mk (c5) ?_|refine Bf.t eg ?_|refine Bf.f eg ?_)
      exact congrArg (fun z => [B z]) ((allN_no lp (by unfold clearAt; rw [hm0, eg, ec, decide_eq_false ek]; rfl)).symm)
     ·repeat' ((conv=>whnf);first|with_reducible (first|refine Lm ?_|refine Wm (by omega) ?_|refine Ix.nat (get_map hx) ?_|refine dT (by omega) (fun hq => ?_)|refine eT (by omega) (fun hq => ?_)|refine eF (by omega) (fun hq => ?_)|refine Bf.E (fun hq => ?_) (fun hq => ?_)|refine Bn ?_|refine Fm rfl ?_)|refine Bt ?_|refine Bu ?_|refine Cl.mk (c5) ?_|refine Bf.t eg ?_|refine Bf.f eg ?_)
      ((conv=>whnf);refine Nx.mk (p + 1) ⟨by omega, allN_yes ap (by unfold clearAt; rw [ec]; simp)⟩ (by omega) ?_; (repeat' (first|exact trivial|rfl|refine And.intro ?_ ?_|(exact wkI (by first|omega|(simp only; omega)|(simp; omega))))))
 ·obtain rfl : p = pgN w.Heap := by omega
  repeat' ((conv=>whnf);first|with_reducible (first|refine Lm ?_|refine Wm (by omega) ?_|refine dF (by omega) (fun hq => ?_)|refine Bn ?_|refine Fm rfl ?_)|refine Bt ?_|refine Bu ?_)
  exact congrArg (fun z => [B z]) (ap.symm)
theorem WorldOk_impl (w : DWorld) (hs : DWorld.sml w) : CallsA Tryz.prog 21 false [.val (some 26) (DWorld.enc .imm w)] .one [B (worldOk w)] := by
 obtain ⟨hsh, hsr⟩ := hs
 have c1 := RefSame_impl w.Heap w.Ref hsh hsr
 cases e1 : refSame w.Heap w.Ref <;> rw [e1] at c1
 ·refine fO (n := 64) [] Tryz.func21 (by kernel_rfl) rfl (by kernel_rfl) (by rfl) (.inr ⟨trivial, trivial⟩) ?_
  repeat' ((conv=>whnf);first|with_reducible (first|refine Lm ?_|refine Wm (by omega) ?_|refine Bn ?_|refine Fm rfl ?_)|refine Bt ?_|refine Bu ?_|refine Cl.mk (c1) ?_)
  exact congrArg (fun z => [B z]) ((worldOk_1 e1).symm)
 have hh := refSame_heap e1
 have hpe : pgN w.Heap = w.Heap.Kernel.Machine.Table.Entries.length := rfl
 have hst : DTable.sml w.Heap.Kernel.Machine.Table := hsh.1.1.2
 have hpn : pgN w.Heap ≤ 1048576 := hst.1
 have c2 := Leaks_impl w.Heap hsh hh
 have c3 := AccountOf_impl w.Heap hsh hh
 have c4 := AccountFits_impl (accountOf w.Heap)
 cases e2 : accFits (accountOf w.Heap) <;> rw [e2] at c4
 ·refine fO (n := 64) [] Tryz.func21 (by kernel_rfl) rfl (by kernel_rfl) (by rfl) (.inr ⟨trivial, trivial⟩) ?_
  repeat' ((conv=>whnf);first|with_reducible (first|refine Lm ?_|refine Wm (by omega) ?_|refine dF (by omega) (fun hq => ?_)|refine Bn ?_|refine Fm rfl ?_)|refine Bt ?_|refine Bu ?_|refine Cl.mk (c1) ?_|refine Cl.mk (c2) ?_|refine Cl.mk (c3) ?_|refine Cl.mk (c4) ?_)
  exact congrArg (fun z => [B z]) ((worldOk_2 e2).symm)
 rw [worldOk_3 e1 e2]
 refine fO (n := 64) [] Tryz.func21 (by kernel_rfl) rfl (by kernel_rfl) (by rfl) (.inr ⟨trivial, trivial⟩) ?_
 repeat' ((conv=>whnf);first|with_reducible (first|refine Lm ?_|refine Wm (by omega) ?_|refine dF (by omega) (fun hq => ?_)|refine Bn ?_|refine Fm rfl ?_)|refine Bt ?_|refine Bu ?_|refine Cl.mk (c1) ?_|refine Cl.mk (c2) ?_|refine Cl.mk (c3) ?_|refine Cl.mk (c4) ?_)
 (conv=>whnf)
 refine Lp.mk (ι := Nat) (fun p => [(1, .hold .box (DWorld.enc .imm w)), (31, .hold .one [I ((pgN w.Heap : Nat))]), (32, .hold .one [I ((p : Nat) : Int)])]) (fun p => p ≤ pgN w.Heap ∧ allN p (clearAt w.Heap) = true) (fun p => pgN w.Heap - p) 0 ?_ ⟨Nat.zero_le _, rfl⟩ fun p hp => ?_
 ·repeat' (first|exact trivial|rfl|refine And.intro ?_ ?_|(exact wkI (by first|omega|(simp only; omega)|(simp; omega))))
 obtain ⟨hp, ap⟩ := hp
 by_cases lp : p < pgN w.Heap
 ·have c6 := mapped_impl w.Heap.Kernel (p : Nat) hst
  rw [pageEntry_nat lp] at c6
  by_cases em : (nth w.Heap.Kernel.Machine.Table.Entries p).Mode = 0
  ·rw [decide_eq_false (fun h => h em)] at c6
   cases eg : w.Heap.Meshing
   all_goals
    repeat' ((conv=>whnf);first|with_reducible (first|refine Lm ?_|refine Wm (by omega) ?_|refine dT (by omega) (fun hq => ?_)|refine Bf.E (fun hq => ?_) (fun hq => ?_)|refine Bn ?_|refine Fm rfl ?_)|refine Bt ?_|refine Bu ?_|refine Cl.mk (c6) ?_|refine Bf.t eg ?_|refine Bf.f eg ?_)
    all_goals ((conv=>whnf);refine Nx.mk (p + 1) ⟨by omega, allN_yes ap (by unfold clearAt; rw [decide_eq_true (show (nth (tbl w.Heap).Entries p).Mode = 0 from em)]; rfl)⟩ (by omega) ?_; (repeat' (first|exact trivial|rfl|refine And.intro ?_ ?_|(exact wkI (by first|omega|(simp only; omega)|(simp; omega))))))
  ·rw [decide_eq_true em] at c6
   have hm0 : decide ((nth (tbl w.Heap).Entries p).Mode = 0) = false := decide_eq_false em
   have c5 := PageClear_impl w.Heap p hsh hh lp em
   cases eg : w.Heap.Meshing
   ·cases ec : pageClear w.Heap p <;> rw [ec] at c5
    ·repeat' ((conv=>whnf);first|with_reducible (first|refine Lm ?_|refine Wm (by omega) ?_|refine dT (by omega) (fun hq => ?_)|refine Bn ?_|refine Fm rfl ?_)|refine Bt ?_|refine Bu ?_|refine Cl.mk (c6) ?_|refine Cl.mk (c5) ?_|refine Bf.t eg ?_|refine Bf.f eg ?_)
     exact congrArg (fun z => [B z]) ((allN_no lp (by unfold clearAt; rw [hm0, eg, ec]; rfl)).symm)
    ·repeat' ((conv=>whnf);first|with_reducible (first|refine Lm ?_|refine Wm (by omega) ?_|refine dT (by omega) (fun hq => ?_)|refine Bn ?_|refine Fm rfl ?_)|refine Bt ?_|refine Bu ?_|refine Cl.mk (c6) ?_|refine Cl.mk (c5) ?_|refine Bf.t eg ?_|refine Bf.f eg ?_)
     ((conv=>whnf);refine Nx.mk (p + 1) ⟨by omega, allN_yes ap (by unfold clearAt; rw [ec]; simp)⟩ (by omega) ?_; (repeat' (first|exact trivial|rfl|refine And.intro ?_ ?_|(exact wkI (by first|omega|(simp only; omega)|(simp; omega))))))
   ·by_cases ek : ((p : Nat) : Int) = w.Heap.Job.Plan.Keep
    ·repeat' ((conv=>whnf);first|with_reducible (first|refine Lm ?_|refine Wm (by omega) ?_|refine dT (by omega) (fun hq => ?_)|refine eT (by omega) (fun hq => ?_)|refine eF (by omega) (fun hq => ?_)|refine Bf.E (fun hq => ?_) (fun hq => ?_)|refine Bn ?_|refine Fm rfl ?_)|refine Bt ?_|refine Bu ?_|refine Cl.mk (c6) ?_|refine Cl.mk (c5) ?_|refine Bf.t eg ?_|refine Bf.f eg ?_)
     ((conv=>whnf);refine Nx.mk (p + 1) ⟨by omega, allN_yes ap (by unfold clearAt; rw [eg, decide_eq_true ek]; simp)⟩ (by omega) ?_; (repeat' (first|exact trivial|rfl|refine And.intro ?_ ?_|(exact wkI (by first|omega|(simp only; omega)|(simp; omega))))))
    ·cases ec : pageClear w.Heap p <;> rw [ec] at c5
     ·repeat' ((conv=>whnf);first|with_reducible (first|refine Lm ?_|refine Wm (by omega) ?_|refine dT (by omega) (fun hq => ?_)|refine eT (by omega) (fun hq => ?_)|refine eF (by omega) (fun hq => ?_)|refine Bf.E (fun hq => ?_) (fun hq => ?_)|refine Bn ?_|refine Fm rfl ?_)|refine Bt ?_|refine Bu ?_|refine Cl.mk (c6) ?_|refine Cl.mk (c5) ?_|refine Bf.t eg ?_|refine Bf.f eg ?_)
      exact congrArg (fun z => [B z]) ((allN_no lp (by unfold clearAt; rw [hm0, eg, ec, decide_eq_false ek]; rfl)).symm)
     ·repeat' ((conv=>whnf);first|with_reducible (first|refine Lm ?_|refine Wm (by omega) ?_|refine dT (by omega) (fun hq => ?_)|refine eT (by omega) (fun hq => ?_)|refine eF (by omega) (fun hq => ?_)|refine Bf.E (fun hq => ?_) (fun hq => ?_)|refine Bn ?_|refine Fm rfl ?_)|refine Bt ?_|refine Bu ?_|refine Cl.mk (c6) ?_|refine Cl.mk (c5) ?_|refine Bf.t eg ?_|refine Bf.f eg ?_)
      ((conv=>whnf);refine Nx.mk (p + 1) ⟨by omega, allN_yes ap (by unfold clearAt; rw [ec]; simp)⟩ (by omega) ?_; (repeat' (first|exact trivial|rfl|refine And.intro ?_ ?_|(exact wkI (by first|omega|(simp only; omega)|(simp; omega))))))
 ·obtain rfl : p = pgN w.Heap := by omega
  repeat' ((conv=>whnf);first|with_reducible (first|refine Lm ?_|refine Wm (by omega) ?_|refine dF (by omega) (fun hq => ?_)|refine Bn ?_|refine Fm rfl ?_)|refine Bt ?_|refine Bu ?_)
  exact congrArg (fun z => [B z]) (ap.symm)
theorem WorldOk_law (w : DWorld) (hw : DWorld.wf w) : CallsA Tryz.prog 5 false [.val (some 26) (DWorld.enc .imm w)] .one [B true] := by
 by_cases hz : (DWorld.sz w : Int) ≤ 1048576
 ·have hs := DWorld.sml_of (x := w) (by omega)
  have cs := WorldOk_spec w hs hw
  have ci := WorldOk_impl w hs
  generalize worldOk w = b at cs ci
  cases b
  all_goals
   refine fO (n := 27) [(10,3,[22,23,24])] Tryz.func5 (by kernel_rfl) rfl (by kernel_rfl) (by rfl) (.inr ⟨trivial, trivial⟩) ?_
   repeat' ((conv=>whnf);first|with_reducible (first|refine Lm ?_|refine Wm (by omega) ?_|refine dF (by omega) (fun hq => ?_)|refine Bf.D (fun hq => ?_) (fun hq => absurd rfl hq)|refine Bf.N (fun hq => absurd rfl hq) (fun hq => ?_)|refine Bn ?_|refine Fm rfl ?_)|refine Bt ?_|refine Bu ?_|refine Cl.sz (szWorld_ok w _ (by omega) (by omega) hw) (fun hq => absurd hq (by omega)) (fun hq => ?_)|refine Cl.mk (toWorld_ok w hs) ?_|refine Cl.eq (cs) ⟨⟨rfl, DWorld.enc_fz w⟩, trivial⟩ ?_|refine Cl.eq (ci) ⟨⟨rfl, DWorld.enc_fz w⟩, trivial⟩ ?_|refine Cl.eq (eqWorld_ok w w hs) ⟨⟨rfl, DWorld.enc_fz w⟩, ⟨rfl, DWorld.enc_fz w⟩, trivial⟩ ?_)
   all_goals rfl
 ·refine fO (n := 27) [(10,3,[22,23,24])] Tryz.func5 (by kernel_rfl) rfl (by kernel_rfl) (by rfl) (.inr ⟨trivial, trivial⟩) ?_
  repeat' ((conv=>whnf);first|with_reducible (first|refine Lm ?_|refine Wm (by omega) ?_|refine dT (by omega) (fun hq => ?_)|refine Bn ?_|refine Fm rfl ?_)|refine Bt ?_|refine Bu ?_|refine Cl.sz (szWorld_ok w _ (by omega) (by omega) hw) (fun hq => ?_) (fun hq => absurd hq (by omega)))
  rfl
end Go.Proofs.YtjgjnlppphejpaaGreat.Ab
