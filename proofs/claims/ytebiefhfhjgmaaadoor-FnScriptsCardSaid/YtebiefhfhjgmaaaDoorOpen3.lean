/- How an argument that is a struct of five integer fields reads. No condition. -/
import Derived.Test.YtebiefhfhjgmaaaDoorOpen
import Derived.Test.YtebiefhfhjgmaaaDoorActM
namespace Go.Proofs.YtebiefhfhjgmaaaDoor.Opn
set_option maxRecDepth 100000
open Go.RowKit Mm Go.ChangeShapes Go.WideShapes Go.Deep

theorem open_agg5 {H : Type} {enc : TypeId × Value → H} {P : Program} {w : World} {r : Reach} {base b0 : Nat} {spare : Nat → Bool} {held : Bool} {t : TypeId} {fs : Array Field} {fuel : Nat} {v : Value} {x : DataW H × List MemPlace} (he : P.underlying t = some (.struct fs))
    (hone : oneCellFields P fs = true) (hC : P.cellsOf t = fs.size) (hk : fs.size = 5) (hint : ∀ (j : Nat) (f : Field), fs[j]? = some f → P.underlying f.type = some (.int .i64)) (hv : Value.okWide P w r base t v) (h : DataW.trod enc P w b0 spare held fuel t v.cells.toList = some x) :
    ∃ z, v = AcM.Agg z ∧ ∀ j, (Lit.int .i64 (gI z j)).wf = true := by
  obtain ⟨cs, rfl, hcs⟩ := okWide_struct he hv
  have h2 : DataW.trod enc P w b0 spare held fuel t cs.toList = some x := h
  obtain ⟨ys, n', hn', hy, hlen, hyl, hf⟩ := DataW.trod_struct he h2
  have hsz : cs.size = 5 := by omega
  have hcell : ∀ j, j < 5 → ∃ z, cs[j]? = some (I z) ∧ (Lit.int .i64 z).wf = true := by
    intro j hj
    have hj' : j < fs.size := by omega
    have hfj : fs[j]? = some fs[j] := Array.getElem?_eq_getElem hj'
    obtain ⟨ho, hk1⟩ := hone_of hone j _ hfj
    have h1 := hf j _ hfj
    rw [ho, hk1] at h1
    have hjl : j < cs.toList.length := by simp; omega
    have hone' : (cs.toList.drop j).take 1 = [cs.toList[j]] := by
      rw [List.drop_eq_getElem_cons hjl]
      rfl
    rw [hone'] at h1
    have hys : ys[j]? = some (ys[j]'(by omega)) := List.getElem?_eq_getElem (by omega)
    obtain ⟨z, hvz, _, hw⟩ := DataW.trod_int (hint _ _ hfj) (h1.trans hys)
    simp only [List.cons.injEq, and_true] at hvz
    refine ⟨z, ?_, hw⟩
    rw [Array.getElem?_eq_getElem (show j < cs.size by omega)]
    exact congrArg some (by simpa using hvz)
  obtain ⟨z0, e0, w0⟩ := hcell 0 (by omega)
  obtain ⟨z1, e1, w1⟩ := hcell 1 (by omega)
  obtain ⟨z2, e2, w2⟩ := hcell 2 (by omega)
  obtain ⟨z3, e3, w3⟩ := hcell 3 (by omega)
  obtain ⟨z4, e4, w4⟩ := hcell 4 (by omega)
  refine ⟨[z0, z1, z2, z3, z4], ?_, fun j => ?_⟩
  · congr 1
    apply Array.ext_getElem?
    intro j
    rcases (show j = 0 ∨ j = 1 ∨ j = 2 ∨ j = 3 ∨ j = 4 ∨ 5 ≤ j by omega) with rfl | rfl | rfl | rfl | rfl | hj
    · exact e0
    · exact e1
    · exact e2
    · exact e3
    · exact e4
    · rw [Array.getElem?_eq_none (by omega), Array.getElem?_eq_none (by simpa using hj)]
  · rcases (show j = 0 ∨ j = 1 ∨ j = 2 ∨ j = 3 ∨ j = 4 ∨ 5 ≤ j by omega) with rfl | rfl | rfl | rfl | rfl | hj
    · exact w0
    · exact w1
    · exact w2
    · exact w3
    · exact w4
    · have : gI [z0, z1, z2, z3, z4] j = 0 := by unfold gI List.getD; rw [List.getElem?_eq_none (by simpa using hj)]; rfl
      rw [this]; decide
end Go.Proofs.YtebiefhfhjgmaaaDoor.Opn
