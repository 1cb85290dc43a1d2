/- Abstract cells: data as trees, what it means that a value of the model's memory holds such a tree, and how that lasts. No condition. -/
import Derived.RowKit3
import Derived.WalkKit
import Derived.Handy
import Derived.Laws.Cells
import Derived.Laws.IdiomCopy
namespace Go.Proofs.YthinjmmlpgjhnaaGreat.Ab
open Go.RowKit

/-- Whose a slice is: nobody writes it; the call's own; the call's own, and the slice is v. -/
inductive Own where
  | imm
  | own
  | tag (v : Value)
def Own.mine : Own → Bool
  | .imm => false
  | .own => true
  | .tag _ => true
def Own.ok : Own → Value → Prop
  | .imm, _ => False
  | .own, _ => True
  | .tag v', v => v' = v
def Own.okN : Own → Value → Prop
  | .tag v', v => v' = v
  | _, _ => True
/-- A cell's datum: a plain value; a slice with its rows (o: the call's own, no other road leads to it); nothing known; an empty slice without room; a map of the call's own, keyed by numbers, in the order in which its keys came. -/
inductive C where
  | v (x : Value)
  | s (o : Own) (rows : List (List C))
  | x
  | z
  | m (es : List (Int × Value))
instance : Inhabited C := ⟨.x⟩

abbrev CellSet := Nat → Nat → Prop
def NO : CellSet := fun _ _ => False
abbrev cel (w : World) (b o : Nat) : Option Value := w.cell? ⟨b, o, none⟩
/-- A map's block. -/
def mp (w : World) (b : Nat) : Option (Array MapEntry × Nat) :=
  match w.heap[b]? with
  | some (.map es clock) => some (es, clock)
  | _ => none
theorem mp_setCell (w : World) (a : Addr) (v : Value) (b : Nat) : mp (w.setCell a v) b = mp w b := by
  unfold mp World.setCell
  simp only [Array.getElem?_modify]
  by_cases h : a.block = b
  · rw [if_pos h]
    cases w.heap[b]? with
    | none => rfl
    | some o => cases o <;> rfl
  · rw [if_neg h]
theorem mp_setCells (b : Nat) : ∀ (g o : Nat) (vs : List Value) (w : World), mp (w.setCells g o vs) b = mp w b
  | _, _, [], _ => rfl
  | g, o, v :: vs, w => by rw [World.setCells, mp_setCells b g (o + 1) vs, mp_setCell]
/-- A cell's mark, and what map its block is. -/
abbrev fro (w : World) (b o : Nat) : Bool × Option (Array MapEntry × Nat) := (w.frozen? ⟨b, o, none⟩, mp w b)
/-- No mark, no map. -/
abbrev NF : Bool × Option (Array MapEntry × Nat) := (false, none)
/-- The cells of X read in w' as in w, and their marks. -/
def SameOn (X : CellSet) (w w' : World) : Prop := ∀ b o, X b o → cel w' b o = cel w b o ∧ fro w' b o = fro w b o

/-- Value v of world w holds the datum c. S: cells that nobody writes any more; F: cells that belong to this datum alone. -/
inductive Rep (w : World) (S : CellSet) : CellSet → C → Value → Prop
  | v (F : CellSet) (x : Value) (h1 : x.oneCell' = true) : Rep w S F (.v x) x
  | x (F : CellSet) (u : Value) (h1 : u.oneCell' = true) : Rep w S F .x u
  | z (F : CellSet) (a : Option Addr) : Rep w S F .z (.slice a 0 0)
  | nil (F : CellSet) (o : Own) (a : Option Addr) (ho : o.okN (.slice a 0 0)) : Rep w S F (.s o []) (.slice a 0 0)
  | imm (F : CellSet) (g off k n cap : Nat) (rows : List (List C)) (u : Nat → Value) (hn : rows.length = n) (hk : ∀ r ∈ rows, r.length = k) (hcap : n ≤ cap)
      (hS : ∀ q, q < n * k → S g (off + q) ∧ cel w g (off + q) = some (u q))
      (hc : ∀ i j r c, rows[i]? = some r → r[j]? = some c → Rep w S NO c (u (i * k + j))) :
      Rep w S F (.s .imm rows) (.slice (some ⟨g, off, none⟩) n cap)
  | own (F : CellSet) (o : Own) (g k n cap : Nat) (rows : List (List C)) (u : Nat → Value) (f : Nat → CellSet) (ho : o.ok (.slice (some ⟨g, 0, none⟩) n cap)) (hn : rows.length = n) (hk : ∀ r ∈ rows, r.length = k) (hcap : n ≤ cap) (hpos : 0 < n)
      (hF : ∀ q, q < cap * k → F g q ∧ (∃ z, cel w g q = some z ∧ z.oneCell' = true) ∧ fro w g q = NF)
      (hu : ∀ q, q < n * k → cel w g q = some (u q))
      (hf : ∀ q, q < n * k → ∀ b o, f q b o → F b o ∧ ¬ (b = g ∧ o < cap * k))
      (hd : ∀ q q', q < n * k → q' < n * k → q ≠ q' → ∀ b o, f q b o → ¬ f q' b o)
      (hc : ∀ i j r c, rows[i]? = some r → r[j]? = some c → Rep w S (f (i * k + j)) c (u (i * k + j))) :
      Rep w S F (.s o rows) (.slice (some ⟨g, 0, none⟩) n cap)
  | m (F : CellSet) (b clock : Nat) (es : List (Int × Value)) (ents : Array MapEntry) (hF : ∀ o, F b o) (hb : mp w b = some (ents, clock)) (he : ents.toList.map (fun e => (e.key, e.val)) = es.map (fun p => (.int .i64 p.1, p.2))) (hv : ∀ p ∈ es, p.2.oneCell' = true) :
      Rep w S F (.m es) (.map (some b))

theorem flat_lt {i j k n : Nat} (hi : i < n) (hj : j < k) : i * k + j < n * k := by
  have : (i + 1) * k ≤ n * k := Nat.mul_le_mul_right k hi
  rw [Nat.add_mul] at this; omega
theorem row_lt {rows : List (List C)} {n k i j : Nat} {r : List C} {c : C} (hn : rows.length = n) (hk : ∀ r ∈ rows, r.length = k) (hi : rows[i]? = some r) (hj : r[j]? = some c) : i < n ∧ j < k := by
  have h1 := (List.getElem?_eq_some_iff.1 hi).1
  have h2 := (List.getElem?_eq_some_iff.1 hj).1
  have h3 := hk r (List.mem_of_getElem? hi)
  omega

theorem Rep.one {w : World} {S F : CellSet} {c : C} {v : Value} (h : Rep w S F c v) : v.oneCell' = true := by
  cases h <;> first | assumption | rfl

theorem Rep.keep {w w' : World} {S F : CellSet} {c : C} {v : Value} (h : Rep w S F c v) : SameOn S w w' → SameOn F w w' → Rep w' S F c v := by
  induction h with
  | v F x h1 => exact fun _ _ => .v F x h1
  | x F u h1 => exact fun _ _ => .x F u h1
  | z F a => exact fun _ _ => .z F a
  | nil F o a ho => exact fun _ _ => .nil F o a ho
  | imm F g off k n cap rows u hn hk hcap hS hc ih =>
    intro hs _
    exact .imm F g off k n cap rows u hn hk hcap (fun q hq => ⟨(hS q hq).1, (hs _ _ (hS q hq).1).1.trans (hS q hq).2⟩)
      (fun i j r c hi hj => ih i j r c hi hj hs (fun _ _ h => h.elim))
  | own F o g k n cap rows u f ho hn hk hcap hpos hF hu hf hd hc ih =>
    intro hs hf'
    refine .own F o g k n cap rows u f ho hn hk hcap hpos (fun q hq => ?_) (fun q hq => ?_) hf hd (fun i j r c hi hj => ih i j r c hi hj hs fun b o hb => ?_)
    · obtain ⟨h1, h2, h3⟩ := hF q hq
      have h4 := hf' g q h1
      exact ⟨h1, by rw [h4.1]; exact h2, by rw [h4.2]; exact h3⟩
    · rw [(hf' g q (hF q (Nat.lt_of_lt_of_le hq (Nat.mul_le_mul_right k hcap))).1).1]; exact hu q hq
    · obtain ⟨hi', hj'⟩ := row_lt hn hk hi hj
      exact hf' b o (hf _ (flat_lt hi' hj') b o hb).1
  | m F b clock es ents hF hb he hv => exact fun _ hf => .m F b clock es ents hF ((congrArg Prod.snd (hf b 0 (hF 0)).2).trans hb) he hv
theorem Rep.mono {w : World} {S S' F F' : CellSet} {c : C} {v : Value} (h : Rep w S F c v) : (∀ b o, S b o → S' b o) → (∀ b o, F b o → F' b o) → Rep w S' F' c v := by
  induction h generalizing F' with
  | v F x h1 => exact fun _ _ => .v _ x h1
  | x F u h1 => exact fun _ _ => .x _ u h1
  | z F a => exact fun _ _ => .z _ a
  | nil F o a ho => exact fun _ _ => .nil _ o a ho
  | imm F g off k n cap rows u hn hk hcap hS hc ih =>
    intro hs _
    exact .imm _ g off k n cap rows u hn hk hcap (fun q hq => ⟨hs _ _ (hS q hq).1, (hS q hq).2⟩) (fun i j r c hi hj => ih i j r c hi hj hs (fun _ _ h => h))
  | own F o g k n cap rows u f ho hn hk hcap hpos hF hu hf hd hc ih =>
    intro hs hff
    exact .own _ o g k n cap rows u f ho hn hk hcap hpos (fun q hq => ⟨hff _ _ (hF q hq).1, (hF q hq).2⟩) hu (fun q hq b o hb => ⟨hff _ _ (hf q hq b o hb).1, (hf q hq b o hb).2⟩) hd
      (fun i j r c hi hj => ih i j r c hi hj hs (fun _ _ h => h))
  | m F b clock es ents hF hb he hv => exact fun _ hff => .m _ b clock es ents (fun o => hff _ _ (hF o)) hb he hv

/- The datum with no slice of the call's own any more. -/
mutual
def fz : C → C
  | .v x => .v x
  | .s _ rows => .s .imm (fzR rows)
  | .x => .x
  | .z => .z
  | .m _ => .x
def fzR : List (List C) → List (List C)
  | [] => []
  | r :: rs => fzL r :: fzR rs
def fzL : List C → List C
  | [] => []
  | c :: cs => fz c :: fzL cs
end
theorem fzL_map (cs : List C) : fzL cs = cs.map fz := by
  induction cs with
  | nil => rfl
  | cons c cs ih => simp [fzL, ih]
theorem fzR_map (rs : List (List C)) : fzR rs = rs.map (·.map fz) := by
  induction rs with
  | nil => rfl
  | cons c cs ih => simp [fzR, fzL_map, ih]
@[simp] theorem fz_v (x : Value) : fz (.v x) = .v x := by simp [fz]
@[simp] theorem fz_x : fz .x = .x := by simp [fz]
@[simp] theorem fz_z : fz .z = .z := by simp [fz]
@[simp] theorem fz_m (es : List (Int × Value)) : fz (.m es) = .x := by simp [fz]
@[simp] theorem fz_s (o : Own) (rows : List (List C)) : fz (.s o rows) = .s .imm (rows.map (·.map fz)) := by simp [fz, fzR_map]

/-- What belonged to the datum alone is from now on written by nobody. -/
theorem Rep.freeze {w : World} {S F : CellSet} {c : C} {v : Value} (h : Rep w S F c v) : Rep w (fun b o => S b o ∨ F b o) NO (fz c) v := by
  induction h with
  | v F x h1 => simpa using .v _ x h1
  | x F u h1 => simpa using .x _ u h1
  | z F a => simpa using .z _ a
  | nil F o a ho => simpa using .nil _ _ a trivial
  | imm F g off k n cap rows u hn hk hcap hS hc ih =>
    rw [fz_s]
    refine .imm _ g off k n cap _ u (by simpa using hn) (fun r hr => ?_) hcap (fun q hq => ⟨.inl (hS q hq).1, (hS q hq).2⟩) (fun i j r c hi hj => ?_)
    · obtain ⟨r', hr', rfl⟩ := List.mem_map.1 hr
      simpa using hk r' hr'
    · rw [List.getElem?_map] at hi
      cases hi' : rows[i]? with
      | none => rw [hi'] at hi; cases hi
      | some r' =>
        rw [hi'] at hi; simp only [Option.map_some, Option.some.injEq] at hi; subst hi
        rw [List.getElem?_map] at hj
        cases hj' : r'[j]? with
        | none => rw [hj'] at hj; cases hj
        | some c' =>
          rw [hj'] at hj; simp only [Option.map_some, Option.some.injEq] at hj; subst hj
          exact (ih i j r' c' hi' hj').mono (fun _ _ h => h.elim .inl (fun h => h.elim)) (fun _ _ h => h)
  | own F o g k n cap rows u f ho hn hk hcap hpos hF hu hf hd hc ih =>
    rw [fz_s]
    refine .imm _ g 0 k n cap _ u (by simpa using hn) (fun r hr => ?_) hcap (fun q hq => ?_) (fun i j r c hi hj => ?_)
    · obtain ⟨r', hr', rfl⟩ := List.mem_map.1 hr
      simpa using hk r' hr'
    · rw [Nat.zero_add]
      exact ⟨.inr (hF q (Nat.lt_of_lt_of_le hq (Nat.mul_le_mul_right k hcap))).1, hu q hq⟩
    · rw [List.getElem?_map] at hi
      cases hi' : rows[i]? with
      | none => rw [hi'] at hi; cases hi
      | some r' =>
        rw [hi'] at hi; simp only [Option.map_some, Option.some.injEq] at hi; subst hi
        rw [List.getElem?_map] at hj
        cases hj' : r'[j]? with
        | none => rw [hj'] at hj; cases hj
        | some c' =>
          rw [hj'] at hj; simp only [Option.map_some, Option.some.injEq] at hj; subst hj
          obtain ⟨hi2, hj2⟩ := row_lt hn hk hi' hj'
          exact (ih i j r' c' hi' hj').mono (fun b o h => h.elim .inl (fun h => .inr (hf _ (flat_lt hi2 hj2) b o h).1)) (fun _ _ h => h)
  | m F b clock es ents hF hb he hv => simpa using .x _ _ rfl
end Go.Proofs.YthinjmmlpgjhnaaGreat.Ab
