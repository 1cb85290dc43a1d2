/- Rows of abstract cells and places inside them: how a place is found in memory, read, and written where all on the way to it is the call's own. No condition. -/
import Derived.Test.YthinjmmlpgjhnaaGreatAbC
namespace Go.Proofs.YthinjmmlpgjhnaaGreat.Ab
open Go.RowKit

/-- The cells cs with the values u, each with a set of its own inside F. -/
def Row (w : World) (S F : CellSet) (cs : List C) (u : Nat → Value) : Prop :=
  ∃ f : Nat → CellSet, (∀ j c, cs[j]? = some c → Rep w S (f j) c (u j)) ∧ (∀ j, j < cs.length → ∀ b o, f j b o → F b o) ∧
    (∀ j j', j < cs.length → j' < cs.length → j ≠ j' → ∀ b o, f j b o → ¬ f j' b o)

theorem Row.keep {w w' : World} {S F : CellSet} {cs : List C} {u : Nat → Value} (h : Row w S F cs u) (hs : SameOn S w w') (hf : SameOn F w w') : Row w' S F cs u := by
  obtain ⟨f, h1, h2, h3⟩ := h
  exact ⟨f, fun j c hj => (h1 j c hj).keep hs (fun b o hb => hf b o (h2 j (List.getElem?_eq_some_iff.1 hj).1 b o hb)), h2, h3⟩
theorem Row.mono {w : World} {S S' F F' : CellSet} {cs : List C} {u : Nat → Value} (h : Row w S F cs u) (hs : ∀ b o, S b o → S' b o) (hf : ∀ b o, F b o → F' b o) : Row w S' F' cs u := by
  obtain ⟨f, h1, h2, h3⟩ := h
  exact ⟨f, fun j c hj => (h1 j c hj).mono hs (fun _ _ h => h), fun j hj b o hb => hf b o (h2 j hj b o hb), h3⟩
theorem Row.congr {w : World} {S F : CellSet} {cs : List C} {u u' : Nat → Value} (h : Row w S F cs u) (hu : ∀ j, j < cs.length → u' j = u j) : Row w S F cs u' := by
  obtain ⟨f, h1, h2, h3⟩ := h
  exact ⟨f, fun j c hj => by rw [hu j (List.getElem?_eq_some_iff.1 hj).1]; exact h1 j c hj, h2, h3⟩
theorem Row.nil (w : World) (S F : CellSet) (u : Nat → Value) : Row w S F [] u := ⟨fun _ => NO, fun j c h => by simp at h, fun j h => by simp at h, fun j j' h => by simp at h⟩
theorem Row.freeze {w : World} {S F : CellSet} {cs : List C} {u : Nat → Value} (h : Row w S F cs u) : Row w (fun b o => S b o ∨ F b o) NO (fzL cs) u := by
  obtain ⟨f, h1, h2, h3⟩ := h
  rw [fzL_map]
  refine ⟨fun _ => NO, fun j c hj => ?_, fun j _ b o h => h, fun j j' _ _ _ b o h => h.elim⟩
  rw [List.getElem?_map] at hj
  cases hj' : cs[j]? with
  | none => rw [hj'] at hj; cases hj
  | some c' =>
    rw [hj'] at hj; simp only [Option.map_some, Option.some.injEq] at hj; subst hj
    exact (h1 j c' hj').freeze.mono (fun b o h => h.elim .inl (fun h => .inr (h2 j (List.getElem?_eq_some_iff.1 hj').1 b o h))) (fun _ _ h => h)
theorem Row.one {w : World} {S F : CellSet} {cs : List C} {u : Nat → Value} (h : Row w S F cs u) {j : Nat} (hj : j < cs.length) : (u j).oneCell' = true := by
  obtain ⟨f, h1, -, -⟩ := h
  exact (h1 j cs[j] (List.getElem?_eq_getElem hj)).one
/-- A part of a row. -/
theorem Row.part {w : World} {S F : CellSet} {cs : List C} {u : Nat → Value} (h : Row w S F cs u) (a n : Nat) : Row w S F ((cs.drop a).take n) (fun j => u (a + j)) := by
  obtain ⟨f, h1, h2, h3⟩ := h
  have hl : ∀ j, j < ((cs.drop a).take n).length → a + j < cs.length := fun j hj => by simp at hj; omega
  refine ⟨fun j => f (a + j), fun j c hj => ?_, fun j hj => h2 _ (hl j hj), fun j j' hj hj' hne => h3 _ _ (hl j hj) (hl j' hj') (by omega)⟩
  have hlt := (List.getElem?_eq_some_iff.1 hj).1
  have hln : j < n := by simp at hlt; omega
  rw [List.getElem?_take, if_pos hln, List.getElem?_drop] at hj
  exact h1 _ c hj

abbrev Steps := List (Nat × Nat × Nat)
/-- The row that a place lies in, and its number there. A step (i, k, j): into element i (k cells) of the slice that lies here, its cell j. -/
def rowAt : List C → Nat → Steps → Option (List C × Nat)
  | cs, off, [] => some (cs, off)
  | cs, off, (i, k, j) :: st =>
    match cs[off]? with
    | some (.s _ rows) => match rows[i]? with
      | some r => if r.length = k then rowAt r j st else none
      | none => none
    | _ => none
/-- Is every slice on the way the call's own? -/
def ownAt : List C → Nat → Steps → Prop
  | _, _, [] => True
  | cs, off, (i, _, j) :: st =>
    match cs[off]? with
    | some (.s o rows) => o ≠ .imm ∧ (match rows[i]? with | some r => ownAt r j st | none => False)
    | _ => False
/-- The row at the place replaced by r'. -/
def updAt : List C → Nat → Steps → List C → List C
  | _, _, [], r' => r'
  | cs, off, (i, _, j) :: st, r' =>
    match cs[off]? with
    | some (.s o rows) => match rows[i]? with
      | some r => cs.set off (.s o (rows.set i (updAt r j st r')))
      | none => cs
    | _ => cs
/-- Where the place lies in memory: u: the values of the row at the top, top: where that row lies. -/
def plc (w : World) : (Nat → Value) → Option (Nat × Nat) → Nat → Steps → Option (Nat × Nat)
  | _, top, off, [] => top.map fun p => (p.1, p.2 + off)
  | u, _, off, (i, k, j) :: st =>
    match u off with
    | .slice (some ⟨g, o, none⟩) _ _ => plc w (fun d => (cel w g (o + i * k + d)).getD undef) (some (g, o + i * k)) j st
    | _ => none
/-- The value of the place's cell d further on. -/
def cellv (w : World) : (Nat → Value) → Nat → Steps → Nat → Value
  | u, off, [], d => u (off + d)
  | u, off, (i, k, j) :: st, d =>
    match u off with
    | .slice (some ⟨g, o, none⟩) _ _ => cellv w (fun d => (cel w g (o + i * k + d)).getD undef) j st d
    | _ => undef

/-- A row of an element, read. -/
theorem Rep.row {w : World} {S F : CellSet} {o : Own} {rows : List (List C)} {v : Value} (h : Rep w S F (.s o rows) v) {i : Nat} {r : List C} (hi : rows[i]? = some r) :
    ∃ g b n cap, v = .slice (some ⟨g, b, none⟩) n cap ∧ i < n ∧ rows.length = n ∧ (∀ r' ∈ rows, r'.length = r.length) ∧
      (∀ d, d < r.length → (∃ z, cel w g (b + i * r.length + d) = some z) ∧ (S g (b + i * r.length + d) ∨ F g (b + i * r.length + d))) ∧ ∃ F', (∀ b o, F' b o → F b o) ∧
      Row w S F' r (fun d => (cel w g (b + i * r.length + d)).getD undef) := by
  cases h with
  | nil => simp at hi
  | imm _ g off k n cap _ u hn hk hcap hS hc =>
    have hr : r.length = k := hk r (List.mem_of_getElem? hi)
    have hin : i < n := by have := (List.getElem?_eq_some_iff.1 hi).1; omega
    have hcel : ∀ d, d < r.length → cel w g (off + i * r.length + d) = some (u (i * k + d)) := fun d hd => by
      rw [hr, Nat.add_assoc]; exact (hS _ (flat_lt hin (by omega))).2
    refine ⟨g, off, n, cap, rfl, hin, hn, fun r' h' => (hk r' h').trans hr.symm, fun d hd => ⟨⟨_, hcel d hd⟩, .inl (by rw [hr, Nat.add_assoc]; exact (hS _ (flat_lt hin (by omega))).1)⟩, NO, fun _ _ h => h.elim, fun _ => NO, fun j c hj => ?_, fun _ _ _ _ h => h, fun _ _ _ _ _ _ _ h => h.elim⟩
    have hj' := (List.getElem?_eq_some_iff.1 hj).1
    show Rep w S NO c ((cel w g (off + i * r.length + j)).getD undef)
    rw [hcel j hj']
    exact hc i j r c hi hj
  | own _ _ g k n cap _ u f _ hn hk hcap _ hF hu hf hd hc =>
    have hr : r.length = k := hk r (List.mem_of_getElem? hi)
    have hin : i < n := by have := (List.getElem?_eq_some_iff.1 hi).1; omega
    have hcel : ∀ d, d < r.length → cel w g (0 + i * r.length + d) = some (u (i * k + d)) := fun d hd => by
      rw [hr, Nat.zero_add]; exact hu _ (flat_lt hin (by omega))
    refine ⟨g, 0, n, cap, rfl, hin, hn, fun r' h' => (hk r' h').trans hr.symm, fun d hd => ⟨⟨_, hcel d hd⟩, .inr (by rw [hr, Nat.zero_add]; exact (hF _ (Nat.lt_of_lt_of_le (flat_lt hin (by omega)) (Nat.mul_le_mul_right k hcap))).1)⟩, F, fun _ _ h => h, fun j => f (i * k + j), fun j c hj => ?_, fun j hj b o h => (hf _ (flat_lt hin (by omega)) b o h).1,
      fun j j' hj hj' hne => hd _ _ (flat_lt hin (by omega)) (flat_lt hin (by omega)) (by omega)⟩
    have hj' := (List.getElem?_eq_some_iff.1 hj).1
    show Rep w S _ c ((cel w g (0 + i * r.length + j)).getD undef)
    rw [hcel j hj']
    exact hc i j r c hi hj

/-- Reading at a place. -/
theorem Row.at_ {w : World} {S : CellSet} : ∀ (st : Steps) {F : CellSet} {cs : List C} {u : Nat → Value} {off : Nat} {r : List C} {j : Nat} (top : Option (Nat × Nat)), Row w S F cs u → rowAt cs off st = some (r, j) →
    ∃ F' u', (∀ b o, F' b o → F b o) ∧ Row w S F' r u' ∧ (∀ d, cellv w u off st d = u' (j + d)) ∧ (st = [] → u' = u) ∧
      (st ≠ [] → ∃ g b, plc w u top off st = some (g, b + j) ∧ ∀ d, d < r.length → cel w g (b + d) = some (u' d))
  | [], F, cs, u, off, r, j, top, h, hr => by
    simp only [rowAt, Option.some.injEq, Prod.mk.injEq] at hr
    obtain ⟨rfl, rfl⟩ := hr
    exact ⟨F, u, fun _ _ h => h, h, fun _ => rfl, fun _ => rfl, fun h => absurd rfl h⟩
  | (i, k, j0) :: st, F, cs, u, off, r, j, top, h, hr => by
    simp only [rowAt] at hr
    cases hc : cs[off]? with
    | none => rw [hc] at hr; cases hr
    | some c =>
      rw [hc] at hr
      cases c with
      | v x => cases hr
      | x => cases hr
      | z => cases hr
      | m es => cases hr
      | s o rows =>
        simp only at hr
        cases hi : rows[i]? with
        | none => rw [hi] at hr; cases hr
        | some r1 =>
          rw [hi] at hr
          simp only at hr
          split at hr
          · rename_i hk
            subst hk
            obtain ⟨f, h1, h2, h3⟩ := h
            have hoff := (List.getElem?_eq_some_iff.1 hc).1
            obtain ⟨g, b, n, cap, hv, hin, hn, -, hcel, F', hF', hrow⟩ := (h1 off _ hc).row hi
            obtain ⟨F2, u2, e1, e2, e3, e0, e4⟩ := Row.at_ st (some (g, b + i * r1.length)) hrow hr
            refine ⟨F2, u2, fun b o hb => h2 off hoff b o (hF' b o (e1 b o hb)), e2, fun d => ?_, (fun h => by cases h), fun _ => ?_⟩
            · simp only [cellv, hv]; exact e3 d
            · simp only [plc, hv]
              cases st with
              | nil =>
                simp only [rowAt, Option.some.injEq, Prod.mk.injEq] at hr
                obtain ⟨rfl, rfl⟩ := hr
                refine ⟨g, b + i * r1.length, rfl, fun d hd => ?_⟩
                obtain ⟨⟨z, hz⟩, -⟩ := hcel d hd
                rw [e0 rfl]; show _ = some ((cel w g (b + i * r1.length + d)).getD undef); rw [hz]; rfl
              | cons s st' => exact e4 (by simp)
          · cases hr
/-- A place and what it holds last, where nothing on the way to it is written. -/
theorem Row.last {w w' : World} {S : CellSet} (hS : SameOn S w w') : ∀ (st : Steps) {F : CellSet} {cs : List C} {u u' : Nat → Value} {off : Nat} {r : List C} {j : Nat} (top : Option (Nat × Nat)), Row w S F cs u → rowAt cs off st = some (r, j) → SameOn F w w' → (∀ x, x < cs.length → u' x = u x) →
    plc w' u' top off st = plc w u top off st ∧ ∀ d, j + d < r.length → cellv w' u' off st d = cellv w u off st d
  | [], F, cs, u, u', off, r, j, top, h, hr, hF, hu => by
    simp only [rowAt, Option.some.injEq, Prod.mk.injEq] at hr
    obtain ⟨rfl, rfl⟩ := hr
    exact ⟨rfl, fun d hd => hu _ hd⟩
  | (i, k, j0) :: st, F, cs, u, u', off, r, j, top, h, hr, hF, hu => by
    simp only [rowAt] at hr
    cases hc : cs[off]? with
    | none => rw [hc] at hr; cases hr
    | some c =>
      rw [hc] at hr
      cases c with
      | v x => cases hr
      | x => cases hr
      | z => cases hr
      | m es => cases hr
      | s o rows =>
        simp only at hr
        cases hi : rows[i]? with
        | none => rw [hi] at hr; cases hr
        | some r1 =>
          rw [hi] at hr
          simp only at hr
          split at hr
          case isFalse => cases hr
          rename_i hk
          subst hk
          obtain ⟨f, h1, h2, h3⟩ := h
          have hoff := (List.getElem?_eq_some_iff.1 hc).1
          obtain ⟨g, b, n, cap, hv, hin, hn, -, hcel, F', hF', hrow⟩ := (h1 off _ hc).row hi
          have hv' : u' off = .slice (some ⟨g, b, none⟩) n cap := (hu off hoff).trans hv
          simp only [plc, cellv, hv, hv']
          refine Row.last hS st _ hrow hr (fun b o hb => hF b o (h2 off hoff b o (hF' b o hb))) (fun x hx => ?_)
          obtain ⟨-, hin2⟩ := hcel x hx
          have : cel w' g (b + i * r1.length + x) = cel w g (b + i * r1.length + x) := hin2.elim (fun h => (hS _ _ h).1) (fun h => (hF _ _ (h2 off hoff _ _ h)).1)
          rw [this]
end Go.Proofs.YthinjmmlpgjhnaaGreat.Ab
