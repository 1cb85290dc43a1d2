/- How data that came in reads, as trees of cells. No condition. -/
import Derived.Test.YthinjmmlpgjhnaaGreatDatH
import Derived.ProofKit
import Derived.OpenShut
import Derived.Deep.Slices
import Derived.Deep.Fields
import Derived.ChangeSame
import Derived.WideShapes
namespace Go.Proofs.YthinjmmlpgjhnaaGreat.Ab
open Go.RowKit Go.ChangeShapes Go.WideShapes Go.Deep

/-- All the memory of a world. -/
def ALL (w : World) : CellSet := fun b _ => b < w.heap.size
/-- Whatever reads as of type t holds a datum (n cells, as enc and wf say). -/
def OpT {H : Type} (e : TypeId × Value → H) (P : Program) (w : World) (t n : Nat) {α : Type} (enc : α → List C) (wf : α → Prop) : Prop :=
  ∀ (fuel : Nat) (cs : List Value) (x : DataW H × List MemPlace), DataW.trod e P w 0 (fun _ => true) true fuel t cs = some x → cs.length = n ∧ ∃ a, wf a ∧ (enc a).length = n ∧ Row w (ALL w) NO (enc a) (fun j => cs.getD j undef)
section
variable {H : Type} {e : TypeId × Value → H} {P : Program} {w : World}

theorem row_one {S F : CellSet} {c : C} {u : Nat → Value} (h : Rep w S F c (u 0)) : Row w S F [c] u :=
  ⟨fun _ => F, fun j c' hj => by cases j with
    | zero => simp at hj; subst hj; exact h
    | succ j => simp at hj, fun _ _ _ _ h => h, fun j j' hj hj' hne => by simp at hj hj'; omega⟩
theorem op_int {t : Nat} (ht : P.underlying t = some (.int .i64)) : OpT e P w t 1 (rI .imm) wfI := by
  intro fuel cs x h
  obtain ⟨n, rfl, -, hw⟩ := DataW.trod_int ht h
  refine ⟨rfl, n, ?_, rfl, row_one (.v _ _ rfl)⟩
  unfold wfI
  simp only [Lit.wf, Bool.and_eq_true, decide_eq_true_eq] at hw
  exact hw
theorem op_bool {t : Nat} (ht : P.underlying t = some .bool) : OpT e P w t 1 (rB .imm) wfB := by
  intro fuel cs x h
  obtain ⟨b, rfl, -⟩ := DataW.trod_bool ht h
  exact ⟨rfl, b, trivial, rfl, row_one (.v _ _ rfl)⟩
theorem pick {α β : Type} (n : Nat) {Q : Nat → β → Prop} (h : ∀ i, i < n → ∃ b, Q i b) : ∃ l : List β, l.length = n ∧ ∀ i b, l[i]? = some b → Q i b := by
  induction n with
  | zero => exact ⟨[], rfl, fun i b h => by simp at h⟩
  | succ n ih =>
    obtain ⟨l, h1, h2⟩ := ih fun i hi => h i (by omega)
    obtain ⟨b, hb⟩ := h n (by omega)
    refine ⟨l ++ [b], by simp [h1], fun i b' hi => ?_⟩
    by_cases hl : i < n
    · rw [List.getElem?_append_left (by omega)] at hi; exact h2 i b' hi
    · rw [List.getElem?_append_right (by omega)] at hi
      have : i - l.length = 0 := by
        have := (List.getElem?_eq_some_iff.1 hi).1
        simp at this; omega
      rw [this] at hi
      simp at hi
      subst hi
      rw [show i = n by omega]; exact hb
theorem op_slice {t el n : Nat} {α : Type} {enc : α → List C} {wf : α → Prop} (hel : OpT e P w el n enc wf) (ht : P.underlying t = some (.slice el)) (hn : P.cellsOf el = n) (hpos : 0 < n) :
    OpT e P w t 1 (fun xs : List α => [.s .imm (xs.map enc)]) (fun xs => xs.length ≤ 9223372036854775807 ∧ ∀ y ∈ xs, wf y) := by
  intro fuel cs x h
  rcases open_slice ht h with ⟨rfl, -⟩ | ⟨ad, len, cap, m, n', D, Pl, rfl, -, hl, hm, hmm, -, hi⟩
  · exact ⟨rfl, [], ⟨by simp, by simp⟩, rfl, row_one (.nil _ _ _ trivial)⟩
  · simp only [if_true] at hmm
    subst hmm
    have hsp : 0 < m → ad.spot = none := fun hpm => by
      obtain ⟨cs', hc, htr⟩ := hi 0 hpm
      rw [hn] at hc
      obtain ⟨_, hcl, hat⟩ := World.cells?_some hc
      have := hat 0 hpos
      rw [List.getElem?_eq_getElem (by omega)] at this
      have := World.cell?_spot this
      simpa [Addr.add] using this
    have key : ∀ i, i < len → ∃ a, wf a ∧ (enc a).length = n ∧ (∀ d, d < n → ∃ z, cel w ad.block (ad.off + (i * n + d)) = some z) ∧ ad.spot = none ∧ Row w (ALL w) NO (enc a) (fun d => (cel w ad.block (ad.off + (i * n + d))).getD undef) := fun i hil => by
      have hspot := hsp (by omega)
      obtain ⟨cs', hc, htr⟩ := hi i (by omega)
      rw [hn] at hc
      obtain ⟨h1, a, h3, h4, h5⟩ := hel _ _ _ htr
      obtain ⟨_, hcl, hat⟩ := World.cells?_some hc
      have hadd : ∀ d, ad.add d = ⟨ad.block, ad.off + d, none⟩ := fun d => by
        obtain ⟨b, o, sp⟩ := ad
        simp only at hspot
        subst hspot
        unfold Addr.add
        split <;> simp_all
      have hcell : ∀ d, d < n → cel w ad.block (ad.off + (i * n + d)) = cs'[d]? := fun d hd => by
        have := hat d hd
        rw [Go.Deep.add_add, hadd] at this
        exact this
      refine ⟨a, h3, h4, fun d hd => ⟨_, by rw [hcell d hd, List.getElem?_eq_getElem (by omega)]⟩, hspot, h5.congr fun d hd => ?_⟩
      show (cel w ad.block (ad.off + (i * n + d))).getD undef = cs'.getD d undef
      rw [hcell d (by omega), List.getD]
    obtain ⟨l, hll, hlq⟩ := pick (α := α) len key
    refine ⟨rfl, l, ⟨by simp only [maxLen] at hm; omega, fun y hy => ?_⟩, rfl, row_one ?_⟩
    · obtain ⟨i, hi'⟩ := List.mem_iff_getElem?.1 hy
      exact (hlq i y hi').1
    · show Rep w (ALL w) NO (.s .imm (l.map enc)) (.slice (some ad) len m)
      by_cases h0 : len = 0
      · subst h0
        have : l = [] := List.eq_nil_of_length_eq_zero hll
        subst this
        by_cases hc0 : m = 0
        · subst hc0; exact .nil _ _ _ trivial
        · have hspot := hsp (by omega)
          obtain ⟨b, o, sp⟩ := ad
          simp only at hspot
          subst hspot
          exact .imm _ b o n 0 m [] (fun _ => undef) rfl (fun r hr => by simp at hr) hl (fun q hq => by simp at hq) (fun i j r c hi => by simp at hi)
      · obtain ⟨y0, hy0⟩ : ∃ y, l[0]? = some y := ⟨_, List.getElem?_eq_getElem (by omega)⟩
        have hspot := (hlq 0 y0 hy0).2.2.2.1
        obtain ⟨b, o, sp⟩ := ad
        simp only at hspot
        subst hspot
        refine .imm _ b o n len m (l.map enc) (fun q => (cel w b (o + q)).getD undef) (by simpa using hll) (fun r hr => ?_) hl (fun q hq => ?_) (fun i j r c hi hj => ?_)
        · obtain ⟨y, hy, rfl⟩ := List.mem_map.1 hr
          obtain ⟨i, hi'⟩ := List.mem_iff_getElem?.1 hy
          exact (hlq i y hi').2.1
        · have hqd : q / n < len := (Nat.div_lt_iff_lt_mul hpos).2 hq
          obtain ⟨y, hy⟩ : ∃ y, l[q / n]? = some y := ⟨_, List.getElem?_eq_getElem (by omega)⟩
          obtain ⟨z, hz⟩ := (hlq _ y hy).2.2.1 (q % n) (Nat.mod_lt _ hpos)
          have hd : q / n * n + q % n = q := by rw [Nat.mul_comm]; exact Nat.div_add_mod q n
          rw [hd] at hz
          exact ⟨cel_lt hz, by simp only at hz ⊢; rw [hz]; rfl⟩
        · rw [List.getElem?_map] at hi
          cases hli : l[i]? with
          | none => rw [hli] at hi; cases hi
          | some y =>
            rw [hli] at hi
            simp only [Option.map_some, Option.some.injEq] at hi
            subst hi
            obtain ⟨f, h1, h2, -⟩ := (hlq i y hli).2.2.2.2
            have hjl := (List.getElem?_eq_some_iff.1 hj).1
            exact (h1 j c hj).mono (fun _ _ h => h) (h2 j hjl)
/-- A struct's part. -/
theorem op_part {t : Nat} {fs : Array Field} {fuel : Nat} {cs : List Value} {x : DataW H × List MemPlace} (ht : P.underlying t = some (.struct fs)) (h : DataW.trod e P w 0 (fun _ => true) true fuel t cs = some x) (i : Nat) (f : Field) (hf : fs[i]? = some f)
    {n : Nat} {α : Type} {enc : α → List C} {wf : α → Prop} (ho : OpT e P w f.type n enc wf) (hn : P.cellsOf f.type = n) : ∃ a, wf a ∧ (enc a).length = n ∧ Row w (ALL w) NO (enc a) (fun j => cs.getD (f.offset + j) undef) := by
  obtain ⟨ys, n', hn', hy, hlen, hyl, hfl⟩ := DataW.trod_struct ht h
  have h1 := hfl i f hf
  have hi := (Array.getElem?_eq_some_iff.1 hf).1
  rw [List.getElem?_eq_getElem (by omega)] at h1
  rw [hn] at h1
  obtain ⟨e1, a, e2, e3, e4⟩ := ho _ _ _ h1
  refine ⟨a, e2, e3, e4.congr fun j hj => ?_⟩
  simp only [List.getD]
  rw [List.getElem?_take_of_lt (by omega), List.getElem?_drop]
theorem op_cat {cs : List Value} {c1 c2 : List C} {o : Nat} (h1 : Row w (ALL w) NO c1 (fun j => cs.getD (o + j) undef)) (h2 : Row w (ALL w) NO c2 (fun j => cs.getD (o + c1.length + j) undef)) : Row w (ALL w) NO (c1 ++ c2) (fun j => cs.getD (o + j) undef) := by
  refine ((row_append h1 h2 fun _ _ h => h.elim).mono (fun _ _ h => h) (fun _ _ h => h.elim id id)).congr fun j hj => ?_
  by_cases hl : j < c1.length
  · rw [if_pos hl]
  · rw [if_neg hl]
    show cs.getD (o + j) undef = cs.getD (o + c1.length + (j - c1.length)) undef
    congr 1; omega
theorem valOk_agg {S : CellSet} {cs : Array Value} {n : Nat} {xs : List C} (h1 : cs.toList.length = n) (h2 : xs.length = n) (h3 : Row w S NO xs (fun j => cs.toList.getD j undef)) : ValOk w S NO (some n) xs (.agg cs) := by
  refine ⟨h2, _, ?_, h3⟩
  have := mkv_agg cs
  rw [show cs.size = n by simpa using h1] at this
  exact this
theorem row_val {S F : CellSet} {x : Value} {u : Nat → Value} (h : Row w S F [.v x] u) : u 0 = x := by
  obtain ⟨f, h1, -⟩ := h
  have := h1 0 _ rfl
  cases this
  rfl
end
end Go.Proofs.YthinjmmlpgjhnaaGreat.Ab
