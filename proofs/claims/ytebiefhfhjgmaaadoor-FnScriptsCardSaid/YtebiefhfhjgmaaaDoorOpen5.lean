/- How an argument that is a slice of bytes reads: BRow. No condition. -/
import Derived.Test.YtebiefhfhjgmaaaDoorOpen
import Derived.Test.YtebiefhfhjgmaaaDoorDraw
namespace Go.Proofs.YtebiefhfhjgmaaaDoor.Opn
set_option maxRecDepth 100000
open Go.RowKit Mm Go.ChangeShapes Go.WideShapes

theorem open_bytes_row {H : Type} {enc : TypeId × Value → H} {P : Program} {w : World} {t e : TypeId} {fuel : Nat} {cs : List Value} {x : DataW H × List MemPlace} (ht : P.underlying t = some (.slice e)) (he : P.underlying e = some (.int .u8)) (hC : P.cellsOf e = 1)
    (h : DataW.trod enc P w 0 (fun _ => true) true fuel t cs = some x) :
    ∃ A len cap zs, cs = [.slice A len cap] ∧ len ≤ maxLen ∧ Dr.BRow w w.heap.size A len zs ∧ True := by
  rcases open_ints ht he hC h with ⟨hcs, _⟩ | ⟨a, len, cap, zs, hcs, _, hl, hm, hz, _, hcell, hwz⟩
  · exact ⟨none, 0, 0, [], hcs, by unfold maxLen; omega, ⟨fun h => absurd h (by omega), fun j => by simp [gI]⟩, trivial⟩
  · have hz' : zs.length = cap := by simpa using hz
    refine ⟨some a, len, cap, zs.take len, hcs, by omega, ⟨fun hn => ?_, fun j => ?_⟩, trivial⟩
    · obtain ⟨b, off, spot⟩ := a
      have h0 := hcell 0 (by omega)
      have hspot : spot = none := by simpa [Addr.add] using World.cell?_spot h0
      subst hspot
      refine ⟨b, off, rfl, ?_, fun j hj => ?_⟩
      · have := World.block_lt_of_cell? w _ h0
        simpa [Addr.add] using this
      · have hc := hcell j (by omega)
        have hadd : (⟨b, off, none⟩ : Addr).add j = ⟨b, off + j, none⟩ := by unfold Addr.add; split <;> simp_all
        rw [hadd] at hc
        rw [hc]
        have hj' : j < len := by omega
        simp [gI, List.getD, hj']
    · by_cases hj : j < len
      · have hjz : j < zs.length := by omega
        have h1 := hwz zs[j] (List.getElem_mem hjz)
        have e1 : IntKind.u8.min = 0 := rfl
        have e2 : IntKind.u8.max = 255 := rfl
        have h2 : 0 ≤ zs[j] ∧ zs[j] ≤ 255 := by simpa [Lit.wf, e1, e2] using h1
        simpa [gI, List.getD, hj, hjz] using h2
      · have h0 : (zs.take len)[j]? = none := List.getElem?_eq_none (by simp; omega)
        unfold gI List.getD
        rw [h0]
        decide
end Go.Proofs.YtebiefhfhjgmaaaDoor.Opn
