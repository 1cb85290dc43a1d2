/- How an argument that is a slice of structs of integer fields (or of integers) reads: IRow. No condition. -/
import Derived.Test.YtebiefhfhjgmaaaDoorMem
import Derived.ProofKit
import Derived.OpenShut
import Derived.Deep.Slices
import Derived.Deep.Fields
import Derived.ChangeSame
namespace Go.Proofs.YtebiefhfhjgmaaaDoor.Opn
set_option maxRecDepth 100000
open Go.RowKit Mm Go.ChangeShapes Go.WideShapes Go.Deep

section
variable {H : Type} {enc : TypeId × Value → H} {P : Program} {w : World} {base : Nat} {spare : Nat → Bool} {held : Bool}
theorem open_slice_fields {t e : TypeId} {fs : Array Field} {fuel : Nat} {cs : List Value} {x : DataW H × List MemPlace} (ht : P.underlying t = some (.slice e)) (he : P.underlying e = some (.struct fs))
    (hone : oneCellFields P fs = true) (hC : P.cellsOf e = fs.size) (h : DataW.trod enc P w base spare held fuel t cs = some x) :
    (cs = [.slice none 0 0] ∧ x = (.nil, [])) ∨
    ∃ (a : Addr) (len cap m : Nat) (D : Nat → DataW H) (Pl : Nat → List MemPlace), cs = [.slice (some a) len cap] ∧ base ≤ a.block ∧ len ≤ cap ∧ cap ≤ maxLen ∧ m = (if spare a.block then cap else len) ∧
      x = (.slice ((List.range len).map D) ((List.range (m - len)).map fun j => D (len + j)), MemPlace.row a (m * fs.size) ++ (List.range m).flatMap Pl) ∧
      ∀ i, i < m → ∃ (ys : List (DataW H × List MemPlace)) (n : Nat), D i = .agg (ys.map (·.1)) ∧ Pl i = ys.flatMap (·.2) ∧ ys.length = fs.size ∧
        ∀ (j : Nat) (f : Field), fs[j]? = some f → ∃ (v : Value) (y : DataW H × List MemPlace), w.cell? (a.add (i * fs.size + j)) = some v ∧ ys[j]? = some y ∧ DataW.trod enc P w base spare held n f.type [v] = some y := by
  rcases open_slice ht h with h0 | ⟨a, len, cap, m, n, D, Pl, hcs, hb, hl, hm, hmm, hx, hi⟩
  · exact .inl h0
  · refine .inr ⟨a, len, cap, m, D, Pl, hcs, hb, hl, hm, hmm, by rw [hC] at hx; exact hx, fun i him => ?_⟩
    obtain ⟨cs', hc, ht'⟩ := hi i him
    rw [hC] at hc
    obtain ⟨ys, n', hn', hy, hlen, hyl, hf⟩ := DataW.trod_struct he ht'
    obtain ⟨_, hcl, hat⟩ := World.cells?_some hc
    simp only [Prod.mk.injEq] at hy
    refine ⟨ys, n', hy.1, hy.2, hyl, fun j f hj => ?_⟩
    obtain ⟨ho, hk⟩ := hone_of hone j f hj
    have hjl : j < fs.size := (Array.getElem?_eq_some_iff.1 hj).1
    have hcell := hat j hjl
    have hv : cs'[j]? = some (cs'[j]'(by omega)) := List.getElem?_eq_getElem (by omega)
    have h1 := hf j f hj
    rw [ho, hk] at h1
    have hone' : (cs'.drop j).take 1 = [cs'[j]'(by omega)] := by
      rw [List.drop_eq_getElem_cons (by omega)]
      rfl
    rw [hone'] at h1
    have hys : ys[j]? = some (ys[j]'(by omega)) := List.getElem?_eq_getElem (by omega)
    refine ⟨_, _, ?_, hys, h1.trans hys⟩
    rw [← Go.Deep.add_add, hcell, hv]
end

theorem open_irow {H : Type} {enc : TypeId × Value → H} {P : Program} {w : World} {t e : TypeId} {fs : Array Field} {fuel : Nat} {cs : List Value} {x : DataW H × List MemPlace} {k : Nat} (ht : P.underlying t = some (.slice e)) (he : P.underlying e = some (.struct fs))
    (hone : oneCellFields P fs = true) (hC : P.cellsOf e = fs.size) (hk : fs.size = k) (hkp : 0 < k) (hint : ∀ (j : Nat) (f : Field), fs[j]? = some f → P.underlying f.type = some (.int .i64)) (h : DataW.trod enc P w 0 (fun _ => true) true fuel t cs = some x) :
    ∃ A len cap zs, cs = [.slice A len cap] ∧ len ≤ maxLen ∧ IRow w w.heap.size A len k zs ∧ ∀ j, (Lit.int .i64 (gI zs j)).wf = true := by
  subst hk
  rcases open_slice_fields ht he hone hC h with ⟨hcs, _⟩ | ⟨a, len, cap, m, D, Pl, hcs, _, hl, hm, hmm, _, hi⟩
  · exact ⟨none, 0, 0, [], hcs, by unfold maxLen; omega, ⟨by simp, fun h => absurd h (by omega)⟩, fun j => by simp [gI]; decide⟩
  · simp only [if_true] at hmm
    subst hmm
    have hcell : ∀ j, j < len * fs.size → ∃ z, w.cell? (a.add j) = some (I z) ∧ (Lit.int .i64 z).wf = true := by
      intro j hj
      have hji : j / fs.size < len := (Nat.div_lt_iff_lt_mul hkp).2 hj
      obtain ⟨ys, n, _, _, _, hf⟩ := hi (j / fs.size) (by omega)
      have hjm : j % fs.size < fs.size := Nat.mod_lt _ hkp
      obtain ⟨v, y, hc, _, ht'⟩ := hf (j % fs.size) _ (Array.getElem?_eq_getElem hjm)
      have hd : j / fs.size * fs.size + j % fs.size = j := by rw [Nat.mul_comm]; exact Nat.div_add_mod j fs.size
      rw [hd] at hc
      obtain ⟨z, hv, _, hw⟩ := DataW.trod_int (hint _ _ (Array.getElem?_eq_getElem hjm)) ht'
      simp only [List.cons.injEq, and_true] at hv
      subst hv
      exact ⟨z, hc, hw⟩
    refine ⟨some a, len, _, (List.range (len * fs.size)).map (fun (j : Nat) => match w.cell? (a.add j) with | some (.int _ z) => z | _ => 0), hcs, by omega, ⟨by simp, fun hn => ?_⟩, fun j => ?_⟩
    · have hpos : 0 < len * fs.size := Nat.mul_pos hn hkp
      obtain ⟨b, off, spot⟩ := a
      obtain ⟨z0, h0, _⟩ := hcell 0 hpos
      have hspot : spot = none := by simpa [Addr.add] using World.cell?_spot h0
      subst hspot
      refine ⟨b, off, rfl, ?_, fun j hj => ?_⟩
      · have := World.block_lt_of_cell? w _ h0
        simpa [Addr.add] using this
      · obtain ⟨z, hz, _⟩ := hcell j hj
        have hadd : (⟨b, off, none⟩ : Addr).add j = ⟨b, off + j, none⟩ := by unfold Addr.add; split <;> simp_all
        rw [hadd] at hz
        rw [hz]
        simp [gI, List.getD, hj, hadd, hz]
    · by_cases hj : j < len * fs.size
      · obtain ⟨z, hz, hw⟩ := hcell j hj
        simpa [gI, List.getD, hj, hz] using hw
      · have h0 : ((List.range (len * fs.size)).map (fun (j : Nat) => match w.cell? (a.add j) with | some (.int _ z) => z | _ => 0))[j]? = none := List.getElem?_eq_none (by simp; omega)
        unfold gI List.getD
        rw [h0]
        decide
end Go.Proofs.YtebiefhfhjgmaaaDoor.Opn
