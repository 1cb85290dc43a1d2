/- Abstract frames: what each slot of a function's frame holds; what that means in a world; how a slot is put anew. No condition. -/
import Derived.Test.YthinjmmlpgjhnaaGreatAbW
import Derived.Below
namespace Go.Proofs.YthinjmmlpgjhnaaGreat.Ab
open Go.RowKit

/-- How a slot holds its cells: one cell; a struct; a tuple (none: one cell, some n: a struct of n cells); a pointer to them. -/
inductive Kd where
  | one
  | agg
  | tup (sh : List (Option Nat))
  | box
/-- What is known of a slot: nothing; it holds cells; a pointer to a place in slot t; the value that lies at a place in slot t; a pointer into a row that nobody writes; a function. -/
inductive AV where
  | dead
  | hold (k : Kd) (cs : List C)
  | ref (t off : Nat) (st : Steps)
  | bor (t off : Nat) (st : Steps) (ag : Option Nat)
  | iref (r : List C) (off : Nat)
  | fn (f : FuncId) (caps : List Nat)
instance : Inhabited AV := ⟨.dead⟩

def AV.uses (d : Nat) : AV → Bool
  | .ref t _ _ => Nat.beq t d
  | .bor t _ _ _ => Nat.beq t d
  | .fn _ caps => caps.any (Nat.beq · d)
  | _ => false
/-- A slot that leads into slot d, once d is written: nothing is known of it. -/
def kl (d : Nat) : AV → AV
  | .ref t off st => bif Nat.beq t d then .dead else .ref t off st
  | .bor t off st ag => bif Nat.beq t d then .dead else .bor t off st ag
  | .fn f caps => bif caps.any (Nat.beq · d) then .dead else .fn f caps
  | .hold k cs => .hold k cs
  | .iref r off => .iref r off
  | .dead => .dead
theorem kl_eq (d : Nat) (v : AV) : kl d v = bif v.uses d then .dead else v := by cases v <;> rfl
def put (F : Nat → AV) (d : Nat) (v : AV) : Nat → AV := fun t => bif Nat.beq t d then v else kl d (F t)

def tupCells : Value → List Value
  | .tuple vs => vs.toList.flatMap fun v => v.cells.toList
  | _ => []
/-- The values of a slot's cells. -/
def topU (w : World) : Kd → Value → Nat → Value
  | .one, v => fun _ => v
  | .agg, v => fun j => v.cells.toList.getD j undef
  | .tup _, v => fun j => (tupCells v).getD j undef
  | .box, .pointer (some a) => fun j => (cel w a.block (a.off + j)).getD undef
  | .box, _ => fun _ => undef
def topA : Kd → Value → Option (Nat × Nat)
  | .box, .pointer (some a) => some (a.block, a.off)
  | _, _ => none
def mkv : Option Nat → (Nat → Value) → Value
  | none, u => u 0
  | some n, u => .agg ((List.range n).map u).toArray
def shLen : List (Option Nat) → Nat
  | [] => 0
  | none :: sh => 1 + shLen sh
  | some n :: sh => n + shLen sh
def TupOk : List (Option Nat) → List Value → Prop
  | [], [] => True
  | none :: sh, v :: vs => v.cells = #[v] ∧ TupOk sh vs
  | some n :: sh, v :: vs => (∃ arr, v = .agg arr ∧ arr.size = n) ∧ TupOk sh vs
  | _, _ => False
def HoldOk (w : World) (X : CellSet) : Kd → Nat → Value → Prop
  | .one, n, _ => n = 1
  | .agg, n, v => ∃ arr, v = .agg arr ∧ arr.size = n
  | .tup sh, n, v => ∃ vs, v = .tuple vs ∧ TupOk sh vs.toList ∧ shLen sh = n
  | .box, n, v => ∃ g o, v = .pointer (some ⟨g, o, none⟩) ∧ ∀ j, j < n → X g (o + j) ∧ (∃ z, cel w g (o + j) = some z) ∧ fro w g (o + j) = NF

/-- The value v is as av says (X: the cells that belong to this slot alone; F, tv: the frame that av may lead into). -/
def SlotV (w : World) (S : CellSet) (F : Nat → AV) (tv : Nat → Value) (X : CellSet) : AV → Value → Prop
  | .dead, _ => True
  | .hold k cs, v => ∃ X1 Y : CellSet, (∀ b o, X1 b o → X b o) ∧ (∀ b o, Y b o → X b o) ∧ (∀ b o, X1 b o → ¬ Y b o) ∧ HoldOk w X1 k cs.length v ∧ Row w S Y cs (topU w k v)
  | .ref t off st, v => ∃ k cs r j g o, F t = .hold k cs ∧ rowAt cs off st = some (r, j) ∧ plc w (topU w k (tv t)) (topA k (tv t)) off st = some (g, o) ∧ v = .pointer (some ⟨g, o, none⟩)
  | .bor t off st ag, v => ∃ k cs r j, F t = .hold k cs ∧ rowAt cs off st = some (r, j) ∧ j + ag.getD 1 ≤ r.length ∧ v = mkv ag (cellv w (topU w k (tv t)) off st)
  | .iref r off, v => ∃ g b u, v = .pointer (some ⟨g, b + off, none⟩) ∧ (∀ d, d < r.length → S g (b + d) ∧ cel w g (b + d) = some (u d)) ∧ Row w S NO r u
  | .fn f caps, v => v = .func (.func f) #[] (caps.map tv).toArray

theorem topU_same {w w' : World} {k : Kd} {v : Value} {n : Nat} {X : CellSet} (h : HoldOk w X k n v) (hX : SameOn X w w') : ∀ x, x < n → topU w' k v x = topU w k v x := by
  intro x hx
  cases k with
  | box =>
    obtain ⟨g, o, rfl, h1⟩ := h
    simp only [topU]
    rw [(hX _ _ (h1 x hx).1).1]
  | _ => rfl
theorem HoldOk.keep {w w' : World} {X X' : CellSet} {k : Kd} {n : Nat} {v : Value} (h : HoldOk w X k n v) (hX : SameOn X w w') (hm : ∀ b o, X b o → X' b o) : HoldOk w' X' k n v := by
  cases k with
  | box =>
    obtain ⟨g, o, rfl, h1⟩ := h
    refine ⟨g, o, rfl, fun j hj => ?_⟩
    obtain ⟨a1, a2, a3⟩ := h1 j hj
    have := hX _ _ a1
    exact ⟨hm _ _ a1, by rw [this.1]; exact a2, by rw [this.2]; exact a3⟩
  | _ => exact h

/-- A slot as it was, where nothing that it leads to is written. Y t: what belongs to slot t. -/
theorem SlotV.keep {w w' : World} {S S' : CellSet} {F F' : Nat → AV} {tv tv' : Nat → Value} {X X' : CellSet} {φ : Nat → CellSet} {av : AV} {v : Value} (h : SlotV w S F tv X av v)
    (hh : ∀ t k cs, F t = .hold k cs → SlotV w S F tv (φ t) (F t) (tv t))
    (hu : ∀ t, av.uses t = true → (∀ k cs, F t = .hold k cs → F' t = .hold k cs) ∧ tv' t = tv t ∧ SameOn (φ t) w w')
    (hX : SameOn X w w') (hS : SameOn S w w') (hm : ∀ b o, X b o → X' b o) (hms : ∀ b o, S b o → S' b o) : SlotV w' S' F' tv' X' av v := by
  cases av with
  | dead => trivial
  | hold k cs =>
    obtain ⟨X1, Y, h1, h2, h3, h4, h5⟩ := h
    refine ⟨X1, Y, fun b o hb => hm _ _ (h1 b o hb), fun b o hb => hm _ _ (h2 b o hb), h3, h4.keep (fun b o hb => hX _ _ (h1 b o hb)) (fun _ _ h => h), ?_⟩
    exact ((h5.keep hS (fun b o hb => hX _ _ (h2 b o hb))).mono hms (fun _ _ h => h)).congr fun j hj => topU_same h4 (fun b o hb => hX _ _ (h1 b o hb)) j hj
  | ref t off st =>
    obtain ⟨k, cs, r, j, g, o, h1, h2, h3, h4⟩ := h
    obtain ⟨e1, e2, e3⟩ := hu t (by simp [AV.uses])
    have hs := hh t k cs h1
    rw [h1] at hs
    obtain ⟨X1, Y, a1, a2, a3, a4, a5⟩ := hs
    refine ⟨k, cs, r, j, g, o, e1 k cs h1, h2, ?_, h4⟩
    rw [e2]
    exact (Row.last hS st _ a5 h2 (fun b o hb => e3 _ _ (a2 b o hb)) (fun x hx => topU_same a4 (fun b o hb => e3 _ _ (a1 b o hb)) x hx)).1.trans h3
  | bor t off st ag =>
    obtain ⟨k, cs, r, j, h1, h2, h3, h4⟩ := h
    obtain ⟨e1, e2, e3⟩ := hu t (by simp [AV.uses])
    have hs := hh t k cs h1
    rw [h1] at hs
    obtain ⟨X1, Y, a1, a2, a3, a4, a5⟩ := hs
    refine ⟨k, cs, r, j, e1 k cs h1, h2, h3, ?_⟩
    rw [h4, e2]
    have hl := (Row.last hS st none a5 h2 (fun b o hb => e3 _ _ (a2 b o hb)) (fun x hx => topU_same a4 (fun b o hb => e3 _ _ (a1 b o hb)) x hx)).2
    cases ag with
    | none => exact (hl 0 (by simp at h3; omega)).symm
    | some n =>
      simp only [mkv]
      congr 2
      exact List.map_congr_left fun d hd => (hl d (by simp at h3; have := List.mem_range.1 hd; omega)).symm
  | iref r off =>
    obtain ⟨g, b, u, h1, h2, h3⟩ := h
    exact ⟨g, b, u, h1, fun d hd => ⟨hms _ _ (h2 d hd).1, (hS _ _ (h2 d hd).1).1.trans (h2 d hd).2⟩, (h3.keep hS (fun _ _ h => h.elim)).mono hms (fun _ _ h => h)⟩
  | fn f caps =>
    refine h.trans ?_
    congr 2
    exact List.map_congr_left fun t ht => ((hu t (by simp only [AV.uses, List.any_eq_true]; exact ⟨t, ht, Nat.beq_refl t⟩)).2.1).symm

/-- Of the old memory only the cells of M may be written. -/
structure Keeps (M : CellSet) (w w' : World) : Prop where
  os : w'.os = w.os
  tape : w'.tape = w.tape
  output : w'.output = w.output
  size : w.heap.size ≤ w'.heap.size
  blk : ∀ b, b < w.heap.size → (∀ o, ¬ M b o) → w'.heap[b]? = w.heap[b]?
  cel : ∀ b o, b < w.heap.size → ¬ M b o → cel w' b o = cel w b o
  fro : ∀ b o, b < w.heap.size → ¬ M b o → fro w' b o = fro w b o
theorem Keeps.refl (M : CellSet) (w : World) : Keeps M w w := ⟨rfl, rfl, rfl, Nat.le_refl _, fun _ _ _ => rfl, fun _ _ _ _ => rfl, fun _ _ _ _ => rfl⟩
theorem Keeps.trans {M M' : CellSet} {a b c : World} (h : Keeps M a b) (h' : Keeps M' b c) (hm : ∀ x o, M' x o → a.heap.size ≤ x ∨ M x o) : Keeps M a c := by
  have hno : ∀ x o, x < a.heap.size → ¬ M x o → ¬ M' x o := fun x o hx hn h => (hm x o h).elim (by omega) hn
  have hlt : ∀ x, x < a.heap.size → x < b.heap.size := fun x hx => Nat.lt_of_lt_of_le hx h.size
  exact ⟨h'.os.trans h.os, h'.tape.trans h.tape, h'.output.trans h.output, Nat.le_trans h.size h'.size, fun x hx hn => (h'.blk x (hlt x hx) (fun o => hno x o hx (hn o))).trans (h.blk x hx hn),
    fun x o hx hn => (h'.cel x o (hlt x hx) (hno x o hx hn)).trans (h.cel x o hx hn), fun x o hx hn => (h'.fro x o (hlt x hx) (hno x o hx hn)).trans (h.fro x o hx hn)⟩
theorem Keeps.of_below {w w' : World} (h : Below w.heap.size w w') (M : CellSet) : Keeps M w w' :=
  ⟨h.os, h.tape, h.output, h.size, fun b hb _ => h.block b hb, fun _ _ hb _ => h.cell hb, fun b o hb _ => Prod.ext (h.frozen hb) (by show mp w' b = mp w b; unfold mp; rw [h.block b hb])⟩
theorem Keeps.below {w w' : World} (h : Keeps NO w w') : Below w.heap.size w w' := ⟨h.os, h.tape, h.output, h.size, fun b hb => h.blk b hb (fun _ h => h)⟩
theorem cel_lt {w : World} {b o : Nat} {z : Value} (h : cel w b o = some z) : b < w.heap.size := by
  rcases Nat.lt_or_ge b w.heap.size with hlt | hge
  · exact hlt
  · simp [cel, World.cell?, Array.getElem?_eq_none hge] at h

def tvs (a : Act) (t : Nat) : Value := a.tmps.getD t undef
/-- The slots of a frame: how many; which of them are never written, and what they hold; to which calls something is lent. -/
structure Lim where
  n : Nat
  kp : List (Nat × Value)
  mo : List (Nat × List Nat) := []
def Lim.free (N : Lim) (d : Nat) : Bool := Nat.blt d N.n && !N.kp.any fun p => Nat.beq p.1 d
theorem Lim.free_lt {N : Lim} {d : Nat} (h : N.free d = true) : d < N.n := by
  simp only [Lim.free, Bool.and_eq_true] at h
  simpa [Nat.blt_eq] using h.1
theorem Lim.free_ne {N : Lim} {d : Nat} (h : N.free d = true) {p : Nat × Value} (hp : p ∈ N.kp) : p.1 ≠ d := fun e => by
  simp only [Lim.free, Bool.and_eq_true, Bool.not_eq_true'] at h
  have : N.kp.any (fun p => Nat.beq p.1 d) = true := List.any_eq_true.2 ⟨p, hp, by rw [e]; exact Nat.beq_refl d⟩
  rw [this] at h; cases h.2
/-- The frame F describes the activation a in world w. w0: the world in which the call began; M: old cells lent to the call; S0: cells that nobody writes; N: the number of slots. -/
structure StX (w0 : World) (M S0 : CellSet) (N : Lim) (S : CellSet) (φ : Nat → CellSet) (F : Nat → AV) (a : Act) (w : World) : Prop where
  slot : ∀ t, SlotV w S F (tvs a) (φ t) (F t) (tvs a t)
  dis : ∀ t t', t ≠ t' → ∀ b o, φ t b o → ¬ φ t' b o
  disS : ∀ t b o, φ t b o → ¬ S b o
  ex : ∀ t b o, φ t b o → b < w.heap.size ∧ (w0.heap.size ≤ b ∨ M b o)
  sub : ∀ b o, S0 b o → S b o
  sup : ∀ b o, S b o → b < w.heap.size ∧ (S0 b o ∨ w0.heap.size ≤ b ∨ M b o)
  old : Keeps M w0 w
  size : a.tmps.size = N.n
  defers : a.defers = []
  par : ∀ p, p ∈ N.kp → tvs a p.1 = p.2
def St (w0 : World) (M S0 : CellSet) (N : Lim) (F : Nat → AV) (a : Act) (w : World) : Prop := ∃ S φ, StX w0 M S0 N S φ F a w

theorem tvs_put (a : Act) (d : Nat) (v : Value) (t : Nat) (hd : d < a.tmps.size) : tvs (a.put (some d) v) t = if t = d then v else tvs a t := by
  simp only [tvs, Act.put, Array.getD_eq_getD_getElem?, Array.getElem?_setIfInBounds]
  by_cases h : d = t
  · subst h; simp [hd]
  · rw [if_neg h, if_neg (fun e => h e.symm)]
theorem put_same (F : Nat → AV) (d : Nat) (v : AV) : put F d v d = v := by simp [put]
theorem put_other (F : Nat → AV) {d t : Nat} (v : AV) (h : t ≠ d) : put F d v t = kl d (F t) := by
  have : Nat.beq t d = false := by rw [← Bool.not_eq_true, Nat.beq_eq]; exact h
  simp [put, this]
theorem kl_hold (d : Nat) (k : Kd) (cs : List C) : kl d (.hold k cs) = .hold k cs := rfl

section
variable {w0 w w1 : World} {M S0 S : CellSet} {N : Lim} {φ : Nat → CellSet} {F : Nat → AV} {a : Act}
/-- A slot put anew; its own cells X are new, or are nobody's. -/
theorem StX.put_gen (h : StX w0 M S0 N S φ F a w) (hk : Keeps NO w w1) {d : Nat} (hd : N.free d = true) {av : AV} {v : Value} {X : CellSet}
    (hv : SlotV w1 S F (tvs a) X av v) (hav : av.uses d = false) (hX : ∀ b o, X b o → b < w1.heap.size ∧ (w0.heap.size ≤ b ∨ M b o)) (hXd : ∀ t, t ≠ d → ∀ b o, X b o → ¬ φ t b o) (hXS : ∀ b o, X b o → ¬ S b o) :
    StX w0 M S0 N S (fun t => if t = d then X else φ t) (put F d av) (a.put (some d) v) w1 := by
  have hsz := h.size
  have hall : ∀ X : CellSet, (∀ b o, X b o → b < w.heap.size) → SameOn X w w1 := fun X hX b o hb => ⟨hk.cel b o (hX b o hb) (fun h => h), hk.fro b o (hX b o hb) (fun h => h)⟩
  have hphi : ∀ t, SameOn (φ t) w w1 := fun t => hall _ fun b o hb => (h.ex t b o hb).1
  have hS1 : SameOn S w w1 := hall _ fun b o hb => (h.sup b o hb).1
  have htv : ∀ t, tvs (a.put (some d) v) t = if t = d then v else tvs a t := fun t => tvs_put a d v t (by have := Lim.free_lt hd; omega)
  refine ⟨fun t => ?_, fun t t' hne b o hb hb' => ?_, fun t b o hb => ?_, fun t b o hb => ?_, h.sub, fun b o hb => ⟨Nat.lt_of_lt_of_le (h.sup b o hb).1 hk.size, (h.sup b o hb).2⟩, h.old.trans hk (fun _ _ h => h.elim), by simp [Act.put]; exact hsz, h.defers, fun p hp => by rw [htv, if_neg (Lim.free_ne hd hp)]; exact h.par p hp⟩
  · rw [htv]
    by_cases ht : t = d
    · rw [if_pos ht, if_pos ht, ht, put_same]
      refine hv.keep (φ := φ) (fun t k cs he => ?_) (fun t hu => ?_) (fun _ _ _ => ⟨rfl, rfl⟩) (fun _ _ _ => ⟨rfl, rfl⟩) (fun _ _ h => h) (fun _ _ h => h)
      · refine (h.slot t).keep (φ := φ) (fun t _ _ _ => h.slot t) (fun t hu => ?_) (hphi t) hS1 (fun _ _ h => h) (fun _ _ h => h)
        exact ⟨fun _ _ h => h, rfl, hphi t⟩
      · have hne : t ≠ d := fun e => by subst e; rw [hav] at hu; cases hu
        refine ⟨fun k cs he => by rw [put_other _ _ hne, he, kl_hold], by rw [htv, if_neg hne], fun _ _ _ => ⟨rfl, rfl⟩⟩
    · rw [put_other _ _ ht, if_neg ht, if_neg ht]
      rw [kl_eq]
      cases hu : (F t).uses d with
      | true => trivial
      | false =>
        simp only [cond_false]
        refine (h.slot t).keep (φ := φ) (fun t _ _ _ => h.slot t) (fun t' hu' => ?_) (hphi t) hS1 (fun _ _ h => h) (fun _ _ h => h)
        have hne : t' ≠ d := fun e => by subst e; rw [hu] at hu'; cases hu'
        exact ⟨fun k cs he => by rw [put_other _ _ hne, he, kl_hold], by rw [htv, if_neg hne], hphi t'⟩
  · by_cases ht : t = d
    · rw [if_pos ht] at hb
      by_cases ht' : t' = d
      · exact hne (ht.trans ht'.symm)
      · rw [if_neg ht'] at hb'; exact hXd t' ht' b o hb hb'
    · rw [if_neg ht] at hb
      by_cases ht' : t' = d
      · rw [if_pos ht'] at hb'; exact hXd t ht b o hb' hb
      · rw [if_neg ht'] at hb'; exact h.dis t t' hne b o hb hb'
  · split at hb
    · exact hXS b o hb
    · exact h.disS t b o hb
  · split at hb
    · exact hX b o hb
    · exact ⟨Nat.lt_of_lt_of_le (h.ex t b o hb).1 hk.size, (h.ex t b o hb).2⟩
/-- A slot put anew with cells that are new. -/
theorem StX.put_new (h : StX w0 M S0 N S φ F a w) (hk : Keeps NO w w1) {d : Nat} (hd : N.free d = true) {av : AV} {v : Value} {X : CellSet}
    (hv : SlotV w1 S F (tvs a) X av v) (hav : av.uses d = false) (hX : ∀ b o, X b o → b < w1.heap.size ∧ w.heap.size ≤ b) : St w0 M S0 N (put F d av) (a.put (some d) v) w1 :=
  ⟨S, _, h.put_gen hk hd hv hav (fun b o hb => ⟨(hX b o hb).1, .inl (Nat.le_trans h.old.size (hX b o hb).2)⟩)
    (fun t _ b o hb hb' => by have := (h.ex t b o hb').1; have := (hX b o hb).2; omega) (fun b o hb hb' => by have := (h.sup b o hb').1; have := (hX b o hb).2; omega)⟩
/-- A slot of which nothing is known any more; what was its own is nobody's. -/
theorem StX.forget (h : StX w0 M S0 N S φ F a w) (d : Nat) : StX w0 M S0 N S (fun t => if t = d then NO else φ t) (put F d .dead) a w := by
  refine ⟨fun t => ?_, fun t t' hne b o hb hb' => ?_, fun t b o hb => ?_, fun t b o hb => ?_, h.sub, h.sup, h.old, h.size, h.defers, h.par⟩
  · by_cases ht : t = d
    · subst ht; rw [put_same]; trivial
    · rw [put_other _ _ ht, if_neg ht]
      rw [kl_eq]
      cases hu : (F t).uses d with
      | true => trivial
      | false =>
        simp only [cond_false]
        refine (h.slot t).keep (φ := φ) (fun t _ _ _ => h.slot t) (fun t' hu' => ?_) (fun _ _ _ => ⟨rfl, rfl⟩) (fun _ _ _ => ⟨rfl, rfl⟩) (fun _ _ h => h) (fun _ _ h => h)
        have hne : t' ≠ d := fun e => by subst e; rw [hu] at hu'; cases hu'
        exact ⟨fun k cs he => by rw [put_other _ _ hne, he, kl_hold], rfl, fun _ _ _ => ⟨rfl, rfl⟩⟩
  · split at hb
    · exact hb.elim
    · split at hb'
      · exact hb'.elim
      · exact h.dis t t' hne b o hb hb'
  · split at hb
    · exact hb.elim
    · exact h.disS t b o hb
  · split at hb
    · exact hb.elim
    · exact h.ex t b o hb
end
end Go.Proofs.YthinjmmlpgjhnaaGreat.Ab
