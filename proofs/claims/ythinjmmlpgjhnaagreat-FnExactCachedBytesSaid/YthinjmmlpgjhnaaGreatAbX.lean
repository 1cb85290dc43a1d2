/- A slot's cells taken away or written, on abstract frames. No condition. -/
import Derived.Test.YthinjmmlpgjhnaaGreatAbT
namespace Go.Proofs.YthinjmmlpgjhnaaGreat.Ab
open Go.RowKit

/-- What leads into the cells of slot t, once these are written: a pointer to the box stays, all else goes. -/
def klB (t : Nat) : AV → AV
  | .bor t' off st ag => bif Nat.beq t' t then .dead else .bor t' off st ag
  | .ref t' off (s :: st) => bif Nat.beq t' t then .dead else .ref t' off (s :: st)
  | .ref t' off [] => .ref t' off []
  | .hold k cs => .hold k cs
  | .iref r off => .iref r off
  | .fn f caps => .fn f caps
  | .dead => .dead
def updH (F : Nat → AV) (t : Nat) (k : Kd) (cs : List C) : Nat → AV := fun s => bif Nat.beq s t then .hold k cs else klB t (F s)
/-- cs with xs from place off on. -/
def splice (cs : List C) (off : Nat) (xs : List C) : List C := cs.take off ++ xs ++ cs.drop (off + xs.length)
theorem splice_get {cs xs : List C} {off : Nat} (h : off + xs.length ≤ cs.length) (j : Nat) : (splice cs off xs)[j]? = if off ≤ j ∧ j < off + xs.length then xs[j - off]? else cs[j]? := by
  unfold splice
  by_cases h1 : j < off
  · rw [if_neg (by omega), List.append_assoc, List.getElem?_append_left (by simp; omega), List.getElem?_take, if_pos h1]
  · by_cases h2 : j < off + xs.length
    · rw [if_pos (by omega), List.getElem?_append_left (by simp; omega), List.getElem?_append_right (by simp; omega)]
      congr 1; simp; omega
    · rw [if_neg (by omega), List.getElem?_append_right (by simp; omega), List.getElem?_drop]
      congr 1; simp; omega
theorem splice_len {cs xs : List C} {off : Nat} (h : off + xs.length ≤ cs.length) : (splice cs off xs).length = cs.length := by
  simp [splice]; omega
theorem updH_same (F : Nat → AV) (t : Nat) (k : Kd) (cs : List C) : updH F t k cs t = .hold k cs := by simp [updH]
theorem updH_other (F : Nat → AV) {t s : Nat} (k : Kd) (cs : List C) (h : s ≠ t) : updH F t k cs s = klB t (F s) := by
  have : Nat.beq s t = false := by rw [← Bool.not_eq_true, Nat.beq_eq]; exact h
  simp [updH, this]

section
variable {P : Program} {w0 w w1 : World} {M S0 S : CellSet} {N : Lim} {φ : Nat → CellSet} {F : Nat → AV} {a : Act}

/-- The cells of slot t changed: its own slot is as it should be (X: what belongs to it now), whoever leads elsewhere is not touched. -/
theorem StX.upd {t : Nat} (h : StX w0 M S0 N S φ F a w) (hk : Keeps (φ t) w w1) {k : Kd} {cs cs' : List C} (hF : F t = .hold k cs) {X : CellSet} (hX : ∀ b o, X b o → φ t b o ∨ ((∀ t', t' ≠ t → ¬ φ t' b o) ∧ ¬ S b o ∧ b < w.heap.size ∧ (w0.heap.size ≤ b ∨ M b o)))
    (hs : SlotV w1 S F (tvs a) X (.hold k cs') (tvs a t)) : StX w0 M S0 N S (fun s => if s = t then X else φ s) (updH F t k cs') a w1 := by
  have hne : ∀ t', t' ≠ t → SameOn (φ t') w w1 := fun t' ht b o hb => ⟨hk.cel b o (h.ex t' b o hb).1 (h.dis t' t ht b o hb), hk.fro b o (h.ex t' b o hb).1 (h.dis t' t ht b o hb)⟩
  have hS : SameOn S w w1 := fun b o hb => ⟨hk.cel b o (h.sup b o hb).1 (fun h' => h.disS t b o h' hb), hk.fro b o (h.sup b o hb).1 (fun h' => h.disS t b o h' hb)⟩
  have holdsame : ∀ t', t' ≠ t → ∀ k cs, F t' = .hold k cs → updH F t k cs' t' = .hold k cs := by
    intro t' ht k2 cs2 he
    rw [updH_other _ _ _ ht, he]; rfl
  refine ⟨fun s => ?_, fun s s' hss b o hb hb' => ?_, fun s b o hb => ?_, fun s b o hb => ?_, h.sub, fun b o hb => ⟨Nat.lt_of_lt_of_le (h.sup b o hb).1 hk.size, (h.sup b o hb).2⟩, h.old.trans hk (fun b o hb => (h.ex t b o hb).2), h.size, h.defers, h.par⟩
  · by_cases hst : s = t
    · subst hst
      rw [updH_same, if_pos rfl]
      exact hs
    · rw [updH_other _ _ _ hst, if_neg hst]
      have hsl := h.slot s
      have keep : (F s).uses t = false → SlotV w1 S (updH F t k cs') (tvs a) (φ s) (F s) (tvs a s) := fun hu =>
        hsl.keep (φ := φ) (fun t _ _ _ => h.slot t) (fun t' hu' => by
          have ht : t' ≠ t := fun e => by subst e; rw [hu] at hu'; cases hu'
          exact ⟨fun k cs he => by rw [updH_other _ _ _ ht, he]; rfl, rfl, hne t' ht⟩) (hne s hst) hS (fun _ _ h => h) (fun _ _ h => h)
      cases hFs : F s with
      | dead => trivial
      | hold k2 cs2 => rw [hFs] at keep; exact keep rfl
      | iref r off => rw [hFs] at keep; exact keep rfl
      | fn f caps => rw [hFs] at hsl; exact hsl
      | bor t' off st ag =>
        rw [hFs] at keep
        by_cases ht : t' = t
        · subst ht; simp [klB, SlotV]
        · have hb : Nat.beq t' t = false := by rw [← Bool.not_eq_true, Nat.beq_eq]; exact ht
          simp only [klB, hb, cond_false]
          exact keep hb
      | ref t' off st =>
        rw [hFs] at keep hsl
        by_cases ht : t' = t
        · subst ht
          cases st with
          | cons s st => simp [klB, SlotV]
          | nil =>
            obtain ⟨k2, cs2, r, j, g, o, h1, h2, h3, h4⟩ := hsl
            rw [hF] at h1
            simp only [AV.hold.injEq] at h1
            obtain ⟨rfl, rfl⟩ := h1
            exact ⟨k, cs', cs', off, g, o, updH_same _ _ _ _, rfl, h3, h4⟩
        · have hb : Nat.beq t' t = false := by rw [← Bool.not_eq_true, Nat.beq_eq]; exact ht
          cases st with
          | nil => exact keep hb
          | cons s st =>
            simp only [klB, hb, cond_false]
            exact keep hb
  · by_cases hst : s = t
    · rw [if_pos hst] at hb
      rw [if_neg (fun e => hss (hst.trans e.symm))] at hb'
      rcases hX b o hb with h1 | ⟨h1, -⟩
      · exact h.dis t s' (fun e => hss (hst.trans e)) b o h1 hb'
      · exact h1 s' (fun e => hss (hst.trans e.symm)) hb'
    · rw [if_neg hst] at hb
      by_cases hst' : s' = t
      · rw [if_pos hst'] at hb'
        rcases hX b o hb' with h1 | ⟨h1, -⟩
        · exact h.dis t s (Ne.symm hst) b o h1 hb
        · exact h1 s hst hb
      · rw [if_neg hst'] at hb'
        exact h.dis s s' hss b o hb hb'
  · split at hb
    · rcases hX b o hb with h1 | ⟨-, h1, -⟩
      · exact h.disS t b o h1
      · exact h1
    · exact h.disS s b o hb
  · split at hb
    · rcases hX b o hb with h1 | ⟨-, -, h1, h2⟩
      · exact ⟨Nat.lt_of_lt_of_le (h.ex t b o h1).1 hk.size, (h.ex t b o h1).2⟩
      · exact ⟨Nat.lt_of_lt_of_le h1 hk.size, h2⟩
    · exact ⟨Nat.lt_of_lt_of_le (h.ex s b o hb).1 hk.size, (h.ex s b o hb).2⟩
/-- A part of a row taken away: its cells are nobody's. -/
theorem Row.split {Y : CellSet} {cs : List C} {u : Nat → Value} (h : Row w S Y cs u) {off n : Nat} (hl : off + n ≤ cs.length) :
    ∃ Y1 Y2 : CellSet, (∀ b o, Y1 b o → Y b o) ∧ (∀ b o, Y2 b o → Y b o) ∧ (∀ b o, Y1 b o → ¬ Y2 b o) ∧ Row w S Y1 (splice cs off (List.replicate n .x)) u ∧ Row w S Y2 (takeA cs off n) (fun j => u (off + j)) := by
  have hone := fun j hj => h.one (j := j) hj
  obtain ⟨f, h1, h2, h3⟩ := h
  have hl' : off + (List.replicate n C.x).length ≤ cs.length := by simpa using hl
  refine ⟨fun b o => ∃ j, j < cs.length ∧ ¬ (off ≤ j ∧ j < off + n) ∧ f j b o, fun b o => ∃ j, off ≤ j ∧ j < off + n ∧ f j b o, fun b o ⟨j, hj, _, hb⟩ => h2 j hj b o hb, fun b o ⟨j, _, hj, hb⟩ => h2 j (by omega) b o hb,
    fun b o ⟨j, hj, hn, hb⟩ ⟨j', h4, h5, hb'⟩ => h3 j j' hj (by omega) (fun e => hn (by omega)) b o hb hb', ⟨fun j => if off ≤ j ∧ j < off + n then NO else f j, fun j c hj => ?_, fun j hj b o hb => ?_, fun j j' hj hj' hne b o hb hb' => ?_⟩,
    ⟨fun j => f (off + j), fun j c hj => ?_, fun j hj b o hb => ⟨off + j, by omega, by simp [takeA] at hj; omega, hb⟩, fun j j' hj hj' hne => h3 _ _ (by simp [takeA] at hj; omega) (by simp [takeA] at hj'; omega) (by omega)⟩⟩
  · rw [splice_get hl', List.length_replicate] at hj
    by_cases hr : off ≤ j ∧ j < off + n
    · rw [if_pos hr, List.getElem?_replicate, if_pos (by omega)] at hj
      simp only [Option.some.injEq] at hj
      subst hj
      exact .x _ _ (hone j (by omega))
    · rw [if_neg hr] at hj
      simp only [if_neg hr]
      exact h1 j c hj
  · rw [splice_len hl'] at hj
    split at hb
    · exact hb.elim
    · rename_i hr
      exact ⟨j, hj, hr, hb⟩
  · rw [splice_len hl'] at hj hj'
    split at hb
    · exact hb.elim
    · split at hb'
      · exact hb'.elim
      · exact h3 j j' hj hj' hne b o hb hb'
  · have hlt := (List.getElem?_eq_some_iff.1 hj).1
    simp only [takeA, List.length_take, List.length_drop] at hlt
    rw [takeA, List.getElem?_take, if_pos (by omega), List.getElem?_drop] at hj
    exact h1 _ c hj
/-- A part of a row laid anew. -/
theorem Row.join {Y1 Y2 : CellSet} {cs xs : List C} {u u2 : Nat → Value} (h : Row w S Y1 cs u) (h' : Row w S Y2 xs u2) {off : Nat} (hl : off + xs.length ≤ cs.length) (hd : ∀ b o, Y1 b o → ¬ Y2 b o) :
    Row w S (fun b o => Y1 b o ∨ Y2 b o) (splice cs off xs) (fun j => if off ≤ j ∧ j < off + xs.length then u2 (j - off) else u j) := by
  obtain ⟨f, h1, h2, h3⟩ := h
  obtain ⟨f', h1', h2', h3'⟩ := h'
  refine ⟨fun j => if off ≤ j ∧ j < off + xs.length then f' (j - off) else f j, fun j c hj => ?_, fun j hj b o hb => ?_, fun j j' hj hj' hne b o hb hb' => ?_⟩
  · rw [splice_get hl] at hj
    by_cases hr : off ≤ j ∧ j < off + xs.length
    · simp only [if_pos hr] at hj ⊢
      exact h1' _ c hj
    · simp only [if_neg hr] at hj ⊢
      exact h1 j c hj
  · rw [splice_len hl] at hj
    split at hb
    · exact .inr (h2' _ (by omega) b o hb)
    · exact .inl (h2 j hj b o hb)
  · rw [splice_len hl] at hj hj'
    by_cases hr : off ≤ j ∧ j < off + xs.length
    · rw [if_pos hr] at hb
      by_cases hr' : off ≤ j' ∧ j' < off + xs.length
      · rw [if_pos hr'] at hb'
        exact h3' _ _ (by omega) (by omega) (by omega) b o hb hb'
      · rw [if_neg hr'] at hb'
        exact hd b o (h2 j' hj' b o hb') (h2' _ (by omega) b o hb)
    · rw [if_neg hr] at hb
      by_cases hr' : off ≤ j' ∧ j' < off + xs.length
      · rw [if_pos hr'] at hb'
        exact hd b o (h2 j hj b o hb) (h2' _ (by omega) b o hb')
      · rw [if_neg hr'] at hb'
        exact h3 j j' hj hj' hne b o hb hb'

/-- The cells from 'off' on taken away from slot t. V: what belonged to them. -/
theorem StX.take (h : StX w0 M S0 N S φ F a w) {t : Nat} {k : Kd} {cs : List C} (hF : F t = .hold k cs) {off n : Nat} (hl : off + n ≤ cs.length) :
    ∃ V X : CellSet, (∀ b o, V b o → φ t b o) ∧ (∀ b o, V b o → ¬ X b o) ∧ (∀ b o, X b o → φ t b o) ∧ Row w S V (takeA cs off n) (fun j => topU w k (tvs a t) (off + j)) ∧
      StX w0 M S0 N S (fun s => if s = t then X else φ s) (updH F t k (splice cs off (List.replicate n .x))) a w := by
  have hs := h.slot t
  rw [hF] at hs
  obtain ⟨X1, Y, h1, h2, h3, h4, h5⟩ := hs
  obtain ⟨Y1, Y2, e1, e2, e3, e4, e5⟩ := h5.split hl
  have hl' : off + (List.replicate n C.x).length ≤ cs.length := by simpa using hl
  refine ⟨Y2, fun b o => X1 b o ∨ Y1 b o, fun b o hb => h2 b o (e2 b o hb), fun b o hb hx => hx.elim (fun hx => h3 b o hx (e2 b o hb)) (fun hx => e3 b o hx hb), fun b o hb => hb.elim (h1 b o) (fun hb => h2 b o (e1 b o hb)), e5, ?_⟩
  refine h.upd (Keeps.refl _ _) hF (fun b o hb => .inl (hb.elim (h1 b o) (fun hb => h2 b o (e1 b o hb)))) ⟨X1, Y1, fun _ _ h => .inl h, fun _ _ h => .inr h, fun b o hb hy => h3 b o hb (e1 b o hy), ?_, e4⟩
  rw [splice_len hl']
  exact h4

/-- A store into a box: cells cs (with sets of their own that are nobody's) from 'off' on. -/
theorem StX.store (h : StX w0 M S0 N S φ F a w) {t : Nat} {bs cs : List C} (hF : F t = .hold .box bs) {off : Nat} (hl : off + cs.length ≤ bs.length) {V : CellSet} {u : Nat → Value} (hr : Row w S V cs u)
    (hV : ∀ b o, V b o → (∀ t', ¬ φ t' b o) ∧ ¬ S b o ∧ b < w.heap.size ∧ (w0.heap.size ≤ b ∨ M b o)) {T : Nat} (hsz : (P.info? T).map (·.size) = some cs.length) {v : Value} (hv : v.cells.toList = (List.range cs.length).map u)
    {g o : Nat} (hp : plc w (topU w .box (tvs a t)) (topA .box (tvs a t)) off [] = some (g, o)) :
    ∃ w1, (Instr.storeAt T (.pointer (some ⟨g, o, none⟩)) v).run P w = .ok () w1 ∧ St w0 M S0 N (updH F t .box (splice bs off cs)) a w1 := by
  have hs := h.slot t
  rw [hF] at hs
  obtain ⟨X1, Y, h1, h2, h3, ⟨g', b0, hpt, hbox⟩, h5⟩ := hs
  rw [hpt] at hp h5
  simp only [plc, topA, Option.map_some, Option.some.injEq, Prod.mk.injEq] at hp
  obtain ⟨rfl, rfl⟩ := hp
  have hvl : v.cells.toList.length = cs.length := by rw [hv]; simp
  have hin : ∀ j, j < cs.length → X1 g' (b0 + off + j) ∧ (∃ z, cel w g' (b0 + off + j) = some z) ∧ fro w g' (b0 + off + j) = NF := fun j hj => by
    have := hbox (off + j) (by omega)
    rwa [← Nat.add_assoc] at this
  have hone : ∀ x ∈ v.cells.toList, x.oneCell' = true := fun x hx => by
    rw [hv] at hx
    obtain ⟨j, hj, rfl⟩ := List.mem_map.1 hx
    exact hr.one (List.mem_range.1 hj)
  have hst := run_storeCells_cells (P := P) g' (b0 + off) v.cells.toList 0 w (fun j hj => by obtain ⟨z, hz⟩ := (hin j (by omega)).2.1; simp only [Nat.add_zero]; show (cel w g' (b0 + off + j)).isSome = true; rw [hz]; rfl)
    (fun j hj => by simp only [Nat.add_zero]; exact congrArg Prod.fst (hin j (by omega)).2.2) hone
  simp only [Nat.add_zero] at hst
  refine ⟨w.setCells g' (b0 + off) v.cells.toList, ?_, ?_⟩
  · have hvs : v.cells.size = cs.length := by simpa using hvl
    simp [Instr.storeAt, Instr.sureAddr, storeVar, run_size hsz, hvs, hst]
  · have hout : ∀ b o, ¬ (b = g' ∧ b0 + off ≤ o ∧ o < b0 + off + cs.length) → cel (w.setCells g' (b0 + off) v.cells.toList) b o = cel w b o := fun b o hn =>
      World.cell?_setCells_out g' v.cells.toList (b0 + off) w ⟨b, o, none⟩ (fun e _ => by simp only at e ⊢; rw [hvl]; omega)
    have hfro : ∀ b o, fro (w.setCells g' (b0 + off) v.cells.toList) b o = fro w b o := fun b o => Prod.ext (World.frozen?_setCells g' _ _ w ⟨b, o, none⟩) (mp_setCells _ _ _ _ _)
    have hcin : ∀ j, j < cs.length → cel (w.setCells g' (b0 + off) v.cells.toList) g' (b0 + off + j) = some (u j) := fun j hj => by
      have := World.cell?_setCells_in g' v.cells.toList (b0 + off) w (fun j hj => by obtain ⟨z, hz⟩ := (hin j (by omega)).2.1; show (cel w g' (b0 + off + j)).isSome = true; rw [hz]; rfl) j (by omega)
      show World.cell? _ _ = _
      rw [this]
      congr 1
      have h0 : v.cells.toList[j]? = some (u j) := by rw [hv]; simp [hj]
      exact (List.getElem?_eq_some_iff.1 h0).2
    have hkk : Keeps (φ t) w (w.setCells g' (b0 + off) v.cells.toList) := by
      have hkept : ∀ (vs : List Value) (o : Nat) (w : World), (w.setCells g' o vs).os = w.os ∧ (w.setCells g' o vs).tape = w.tape ∧ (w.setCells g' o vs).output = w.output ∧ (w.setCells g' o vs).heap.size = w.heap.size ∧ ∀ b, b ≠ g' → (w.setCells g' o vs).heap[b]? = w.heap[b]? := by
        intro vs
        induction vs with
        | nil => exact fun _ _ => ⟨rfl, rfl, rfl, rfl, fun _ _ => rfl⟩
        | cons x vs ih =>
          intro o w
          obtain ⟨i1, i2, i3, i4, i5⟩ := ih (o + 1) (w.setCell ⟨g', o, none⟩ x)
          exact ⟨i1, i2, i3, i4.trans (by simp [World.setCell]), fun b hb => (i5 b hb).trans (Below.heap_setCell w ⟨g', o, none⟩ x b hb)⟩
      obtain ⟨i1, i2, i3, i4, i5⟩ := hkept v.cells.toList (b0 + off) w
      refine ⟨i1, i2, i3, by omega, fun b hb hn => ?_, fun b o hb hn => hout b o (fun ⟨e1, e2, e3⟩ => hn ?_), fun b o _ _ => hfro b o⟩
      · by_cases he : b = g'
        · subst he
          by_cases h0 : cs.length = 0
          · have : v.cells.toList = [] := List.eq_nil_of_length_eq_zero (by omega)
            rw [this]; rfl
          · exact absurd (h1 _ _ (hin 0 (by omega)).1) (hn _)
        · exact i5 b he
      · subst e1
        have := (hin (o - (b0 + off)) (by omega)).1
        rw [show b0 + off + (o - (b0 + off)) = o by omega] at this
        exact h1 _ _ this
    have hSY : SameOn S w (w.setCells g' (b0 + off) v.cells.toList) := fun b o hb => ⟨hkk.cel b o (h.sup b o hb).1 (fun h' => h.disS t b o h' hb), hfro b o⟩
    have hYY : SameOn Y w (w.setCells g' (b0 + off) v.cells.toList) := fun b o hb => ⟨hout b o (fun ⟨e1, e2, e3⟩ => by
      subst e1
      have := (hin (o - (b0 + off)) (by omega)).1
      rw [show b0 + off + (o - (b0 + off)) = o by omega] at this
      exact h3 _ _ this hb), hfro b o⟩
    have hVV : SameOn V w (w.setCells g' (b0 + off) v.cells.toList) := fun b o hb => ⟨hkk.cel b o (hV b o hb).2.2.1 ((hV b o hb).1 t), hfro b o⟩
    have hj := (h5.keep hSY hYY).join (hr.keep hSY hVV) hl (fun b o hb hb' => (hV b o hb').1 t (h2 b o hb))
    refine ⟨S, _, h.upd hkk hF (X := fun b o => X1 b o ∨ Y b o ∨ V b o) (fun b o hb => ?_) ⟨X1, fun b o => Y b o ∨ V b o, fun _ _ h => .inl h, fun _ _ h => .inr h, fun b o hb hy => hy.elim (h3 b o hb) (fun hy => (hV b o hy).1 t (h1 b o hb)), ⟨g', b0, hpt, fun j hj => ?_⟩, ?_⟩⟩
    · rcases hb with hb | hb | hb
      · exact .inl (h1 b o hb)
      · exact .inl (h2 b o hb)
      · exact .inr ⟨fun t' _ => (hV b o hb).1 t', (hV b o hb).2⟩
    · rw [splice_len hl] at hj
      obtain ⟨a1, ⟨z, hz⟩, a3⟩ := hbox j hj
      refine ⟨a1, ?_, by rw [hfro]; exact a3⟩
      by_cases hjr : off ≤ j ∧ j < off + cs.length
      · have := hcin (j - off) (by omega)
        rw [show b0 + off + (j - off) = b0 + j by omega] at this
        exact ⟨_, this⟩
      · exact ⟨z, by rw [hout _ _ (by omega)]; exact hz⟩
    · refine hj.congr fun j hjl => ?_
      rw [splice_len hl] at hjl
      rw [hpt]
      simp only [topU]
      by_cases hjr : off ≤ j ∧ j < off + cs.length
      · have := hcin (j - off) (by omega)
        rw [show b0 + off + (j - off) = b0 + j by omega] at this
        rw [if_pos hjr, this]; rfl
      · rw [if_neg hjr, hout _ _ (by omega)]
end
end Go.Proofs.YthinjmmlpgjhnaaGreat.Ab
