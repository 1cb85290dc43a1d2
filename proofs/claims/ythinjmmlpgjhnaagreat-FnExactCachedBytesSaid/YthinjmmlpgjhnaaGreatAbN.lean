/- A place inside a slot: its cells lent, given back, written. No condition. -/
import Derived.Test.YthinjmmlpgjhnaaGreatAbX
namespace Go.Proofs.YthinjmmlpgjhnaaGreat.Ab
open Go.RowKit

/-- Cells that are nobody's. -/
def Free (w0 : World) (M S : CellSet) (φ : Nat → CellSet) (w : World) (V : CellSet) : Prop := ∀ b o, V b o → (∀ t, ¬ φ t b o) ∧ ¬ S b o ∧ b < w.heap.size ∧ (w0.heap.size ≤ b ∨ M b o)
section
variable {P : Program} {w0 w w1 : World} {M S0 S : CellSet} {N : Lim} {φ : Nat → CellSet} {F : Nat → AV} {a : Act}

/-- Only cells that are nobody's are written. -/
theorem StX.world (h : StX w0 M S0 N S φ F a w) {V : CellSet} (hk : Keeps V w w1) (hV : Free w0 M S φ w V) : StX w0 M S0 N S φ F a w1 := by
  have hphi : ∀ t, SameOn (φ t) w w1 := fun t b o hb => ⟨hk.cel b o (h.ex t b o hb).1 (fun hv => (hV b o hv).1 t hb), hk.fro b o (h.ex t b o hb).1 (fun hv => (hV b o hv).1 t hb)⟩
  have hS : SameOn S w w1 := fun b o hb => ⟨hk.cel b o (h.sup b o hb).1 (fun hv => (hV b o hv).2.1 hb), hk.fro b o (h.sup b o hb).1 (fun hv => (hV b o hv).2.1 hb)⟩
  refine ⟨fun t => (h.slot t).keep (φ := φ) (fun t _ _ _ => h.slot t) (fun t _ => ⟨fun _ _ h => h, rfl, hphi t⟩) (hphi t) hS (fun _ _ h => h) (fun _ _ h => h), h.dis, h.disS, fun t b o hb => ⟨Nat.lt_of_lt_of_le (h.ex t b o hb).1 hk.size, (h.ex t b o hb).2⟩, h.sub,
    fun b o hb => ⟨Nat.lt_of_lt_of_le (h.sup b o hb).1 hk.size, (h.sup b o hb).2⟩, h.old.trans hk (fun b o hv => (hV b o hv).2.2.2), h.size, h.defers, h.par⟩
theorem Free.less {φ' : Nat → CellSet} {V : CellSet} (h : Free w0 M S φ w V) (hs : ∀ t b o, φ' t b o → φ t b o) : Free w0 M S φ' w V := fun b o hb => ⟨fun t ht => (h b o hb).1 t (hs t b o ht), (h b o hb).2⟩
theorem Free.or {V V' : CellSet} (h : Free w0 M S φ w V) (h' : Free w0 M S φ w V') : Free w0 M S φ w (fun b o => V b o ∨ V' b o) := fun b o hb => hb.elim (h b o) (h' b o)
theorem Free.sub {V V' : CellSet} (h : Free w0 M S φ w V) (hs : ∀ b o, V' b o → V b o) : Free w0 M S φ w V' := fun b o hb => h b o (hs b o hb)
theorem Free.grow {V : CellSet} (h : Free w0 M S φ w V) (hk : w.heap.size ≤ w1.heap.size) : Free w0 M S φ w1 V := fun b o hb => ⟨(h b o hb).1, (h b o hb).2.1, Nat.lt_of_lt_of_le (h b o hb).2.2.1 hk, (h b o hb).2.2.2⟩
theorem StX.free_new (h : StX w0 M S0 N S φ F a w) {V : CellSet} (hV : ∀ b o, V b o → w.heap.size ≤ b ∧ b < w1.heap.size) : Free w0 M S φ w1 V := fun b o hb =>
  ⟨fun t ht => by have := (h.ex t b o ht).1; have := (hV b o hb).1; omega, fun hS => by have := (h.sup b o hS).1; have := (hV b o hb).1; omega, (hV b o hb).2, .inl (Nat.le_trans h.old.size (hV b o hb).1)⟩

/-- The row at the top of a slot laid anew; its values are what they were. -/
theorem StX.relTop (h : StX w0 M S0 N S φ F a w) {t : Nat} {k : Kd} {cs : List C} (hF : F t = .hold k cs) :
    ∃ X1 Y : CellSet, (∀ b o, X1 b o → φ t b o) ∧ (∀ b o, Y b o → φ t b o) ∧ (∀ b o, X1 b o → ¬ Y b o) ∧ Row w S Y cs (topU w k (tvs a t)) ∧
      ∀ (r' : List C) (G : CellSet), r'.length = cs.length → Row w S G r' (topU w k (tvs a t)) → (∀ b o, G b o → Y b o ∨ ((∀ t', ¬ φ t' b o) ∧ ¬ S b o ∧ b < w.heap.size ∧ (w0.heap.size ≤ b ∨ M b o))) →
        StX w0 M S0 N S (fun s => if s = t then (fun b o => X1 b o ∨ G b o) else φ s) (updH F t k r') a w := by
  have hs := h.slot t
  rw [hF] at hs
  obtain ⟨X1, Y, h1, h2, h3, h4, h5⟩ := hs
  refine ⟨X1, Y, h1, h2, h3, h5, fun r' G hl hr hG => ?_⟩
  refine h.upd (Keeps.refl _ _) hF (fun b o hb => ?_) ⟨X1, G, fun _ _ h => .inl h, fun _ _ h => .inr h, fun b o hb hg => ?_, by rw [hl]; exact h4, hr⟩
  · rcases hb with hb | hb
    · exact .inl (h1 b o hb)
    · rcases hG b o hb with hb | hb
      · exact .inl (h2 b o hb)
      · exact .inr ⟨fun t' _ => hb.1 t', hb.2⟩
  · rcases hG b o hg with hg | hg
    · exact h3 b o hb hg
    · exact hg.1 t (h1 b o hb)
/-- The row at a place below the top laid anew, its cells perhaps written. -/
theorem StX.focus (h : StX w0 M S0 N S φ F a w) {t : Nat} {k : Kd} {cs r : List C} {off j : Nat} {st : Steps} (hF : F t = .hold k cs) (hst : st ≠ []) (hr : rowAt cs off st = some (r, j)) (ho : ownAt cs off st) :
    ∃ g b u' Y, (∀ x o, Y x o → φ t x o) ∧ Row w S Y r u' ∧ (∀ d, j + d < r.length → cellv w (topU w k (tvs a t)) off st d = u' (j + d)) ∧ plc w (topU w k (tvs a t)) (topA k (tvs a t)) off st = some (g, b + j) ∧
      (∀ d, d < r.length → φ t g (b + d) ∧ ¬ Y g (b + d) ∧ cel w g (b + d) = some (u' d) ∧ fro w g (b + d) = NF) ∧
      ∀ (w1 : World) (r' : List C) (u2 : Nat → Value) (G V : CellSet), Keeps V w w1 → (∀ x o, V x o → Y x o ∨ (x = g ∧ b ≤ o ∧ o < b + r.length)) → (∀ d, d < r.length → cel w1 g (b + d) = some (u2 d) ∧ fro w1 g (b + d) = NF) → r'.length = r.length → Row w1 S G r' u2 →
        (∀ x o, G x o → Y x o ∨ ((∀ t', ¬ φ t' x o) ∧ ¬ S x o ∧ x < w.heap.size ∧ (w0.heap.size ≤ x ∨ M x o))) →
        StX w0 M S0 N S (fun s => if s = t then (fun x o => (φ t x o ∧ ¬ Y x o) ∨ G x o) else φ s) (updH F t k (updAt cs off st r')) a w1 := by
  have hs := h.slot t
  rw [hF] at hs
  obtain ⟨X1, Y0, h1, h2, h3, h4, h5⟩ := hs
  obtain ⟨g, b, Y, u', e1, e2, e3, e4, e5⟩ := Row.focus st (topA k (tvs a t)) hst h5 hr ho
  obtain ⟨F2, u2', c1, c2, c3, -, c4⟩ := Row.at_ st (topA k (tvs a t)) h5 hr
  obtain ⟨g2, b2, p1, p2⟩ := c4 hst
  rw [e3] at p1
  simp only [Option.some.injEq, Prod.mk.injEq] at p1
  obtain ⟨rfl, hb2⟩ := p1
  have hbb : b = b2 := by omega
  subst hbb
  refine ⟨g, b, u', Y, fun x o hx => h2 x o (e1 x o hx), e2, fun d hd => ?_, e3, fun d hd => ?_, fun w1 r' u2 G V hk hV hcell hlen hrow hG => ?_⟩
  · rw [c3 d]
    have q1 := p2 (j + d) hd
    have q2 := (e4 (j + d) hd).2.2.1
    rw [q1] at q2
    exact Option.some.inj q2
  · obtain ⟨a1, a2, a3, a4⟩ := e4 d hd
    exact ⟨h2 _ _ a1, a2, a3, a4⟩
  · have hcin : ∀ o, b ≤ o → o < b + r.length → Y0 g o ∧ ¬ Y g o := fun o ho1 ho2 => by
      have := e4 (o - b) (by omega)
      rw [show b + (o - b) = o by omega] at this
      exact ⟨this.1, this.2.1⟩
    have hV0 : ∀ x o, V x o → Y0 x o := fun x o hx => (hV x o hx).elim (e1 x o) (fun h => by rw [h.1]; exact (hcin o h.2.1 h.2.2).1)
    have hkk : Keeps (φ t) w w1 := ⟨hk.os, hk.tape, hk.output, hk.size, fun x hx hn => hk.blk x hx (fun o hv => hn o (h2 x o (hV0 x o hv))), fun x o hx hn => hk.cel x o hx (fun hv => hn (h2 x o (hV0 x o hv))), fun x o hx hn => hk.fro x o hx (fun hv => hn (h2 x o (hV0 x o hv)))⟩
    have hS : SameOn S w w1 := fun x o hx => ⟨hk.cel x o (h.sup x o hx).1 (fun hv => h.disS t x o (h2 x o (hV0 x o hv)) hx), hk.fro x o (h.sup x o hx).1 (fun hv => h.disS t x o (h2 x o (hV0 x o hv)) hx)⟩
    have hX1 : SameOn X1 w w1 := fun x o hx => ⟨hk.cel x o (h.ex t x o (h1 x o hx)).1 (fun hv => h3 x o hx (hV0 x o hv)), hk.fro x o (h.ex t x o (h1 x o hx)).1 (fun hv => h3 x o hx (hV0 x o hv))⟩
    have hrow2 := e5 w1 r' u2 G hS (fun x o hx hny hnc => ⟨hk.cel x o (h.ex t x o (h2 x o hx)).1 (fun hv => (hV x o hv).elim hny hnc), hk.fro x o (h.ex t x o (h2 x o hx)).1 (fun hv => (hV x o hv).elim hny hnc)⟩) hcell hlen hrow (fun x o hx => (hG x o hx).imp id (fun hf h' => hf.1 t (h2 x o h')))
    have hlen2 : (updAt cs off st r').length = cs.length := by
      cases st with
      | nil => exact absurd rfl hst
      | cons s st =>
        obtain ⟨i', k', j'⟩ := s
        simp only [updAt]
        split
        · split <;> simp
        · rfl
    refine h.upd hkk hF (fun x o hx => ?_) ⟨X1, fun x o => (Y0 x o ∧ ¬ Y x o) ∨ G x o, fun x o hx => .inl ⟨h1 x o hx, fun hy => h3 x o hx (e1 x o hy)⟩, fun x o hx => hx.imp (fun hx => ⟨h2 x o hx.1, hx.2⟩) id, fun x o hx hy => ?_, by rw [hlen2]; exact h4.keep hX1 (fun _ _ h => h), hrow2.congr fun d hd => ?_⟩
    · rcases hx with hx | hx
      · exact .inl hx.1
      · rcases hG x o hx with hx | hx
        · exact .inl (h2 x o (e1 x o hx))
        · exact .inr ⟨fun t' _ => hx.1 t', hx.2⟩
    · rcases hy with hy | hy
      · exact h3 x o hx hy.1
      · rcases hG x o hy with hy | hy
        · exact h3 x o hx (e1 x o hy)
        · exact hy.1 t (h1 x o hx)
    · rw [hlen2] at hd
      exact topU_same h4 hX1 d hd
theorem splice_self_len {r : List C} {j n : Nat} (h : j + n ≤ r.length) : (splice r j (List.replicate n C.x)).length = r.length := splice_len (by simpa using h)
/-- Cells lent: taken out of a place. -/
theorem StX.lend (h : StX w0 M S0 N S φ F a w) {t : Nat} {k : Kd} {cs r : List C} {off j n : Nat} {st : Steps} (hF : F t = .hold k cs) (hr : rowAt cs off st = some (r, j)) (ho : ownAt cs off st) (hn : j + n ≤ r.length) :
    ∃ V φ', Row w S V (takeA r j n) (fun d => cellv w (topU w k (tvs a t)) off st d) ∧ StX w0 M S0 N S φ' (updH F t k (updAt cs off st (splice r j (List.replicate n .x)))) a w ∧ Free w0 M S φ' w V ∧ (∀ s b o, φ' s b o → φ s b o) ∧ (∀ b o, V b o → φ t b o) := by
  have fin : ∀ (Y X V : CellSet) (F' : Nat → AV), (∀ b o, X b o → φ t b o) → (∀ b o, V b o → ¬ X b o) → (∀ b o, V b o → φ t b o) → Row w S V (takeA r j n) (fun d => cellv w (topU w k (tvs a t)) off st d) → StX w0 M S0 N S (fun s => if s = t then X else φ s) F' a w →
      ∃ V φ', Row w S V (takeA r j n) (fun d => cellv w (topU w k (tvs a t)) off st d) ∧ StX w0 M S0 N S φ' F' a w ∧ Free w0 M S φ' w V ∧ (∀ s b o, φ' s b o → φ s b o) ∧ (∀ b o, V b o → φ t b o) := by
    intro Y X V F' hX hVX hV hrow hst
    refine ⟨V, _, hrow, hst, fun b o hb => ⟨fun s hs => ?_, h.disS t b o (hV b o hb), h.ex t b o (hV b o hb)⟩, fun s b o hb => ?_, hV⟩
    · replace hs : (if s = t then X else φ s) b o := hs
      by_cases e : s = t
      · rw [if_pos e] at hs; exact hVX b o hb hs
      · rw [if_neg e] at hs; exact h.dis s t e b o hs (hV b o hb)
    · replace hb : (if s = t then X else φ s) b o := hb
      by_cases e : s = t
      · subst e; rw [if_pos rfl] at hb; exact hX b o hb
      · rw [if_neg e] at hb; exact hb
  by_cases hst : st = []
  · subst hst
    simp only [rowAt, Option.some.injEq, Prod.mk.injEq] at hr
    obtain ⟨rfl, rfl⟩ := hr
    obtain ⟨V, X, e1, e2, e3, e4, e5⟩ := h.take hF hn
    exact fin NO X V _ e3 e2 e1 e4 e5
  · obtain ⟨g, b, u', Y, e1, e2, e3, e4, e5, e6⟩ := h.focus hF hst hr ho
    obtain ⟨Y1, Y2, f1, f2, f3, f4, f5⟩ := e2.split hn
    refine fin Y (fun x o => (φ t x o ∧ ¬ Y x o) ∨ Y1 x o) Y2 _ (fun x o hx => hx.elim (·.1) (fun hx => e1 x o (f1 x o hx))) (fun x o hx hx' => hx'.elim (fun h => h.2 (f2 x o hx)) (fun h' => f3 x o h' hx)) (fun x o hx => e1 x o (f2 x o hx)) ?_
      (e6 w _ u' Y1 NO (Keeps.refl _ _) (fun _ _ h => h.elim) (fun d hd => (e5 d hd).2.2) (splice_self_len hn) f4 (fun x o hx => .inl (f1 x o hx)))
    exact f5.congr fun d hd => by
      simp only [takeA, List.length_take, List.length_drop] at hd
      exact e3 d (by omega)
/-- Cells given back to their place. -/
theorem StX.back (h : StX w0 M S0 N S φ F a w) {t : Nat} {k : Kd} {cs r out : List C} {off j : Nat} {st : Steps} (hF : F t = .hold k cs) (hr : rowAt cs off st = some (r, j)) (ho : ownAt cs off st) (hn : j + out.length ≤ r.length) {V : CellSet} (hV : Free w0 M S φ w V)
    (hrow : Row w S V out (fun d => cellv w (topU w k (tvs a t)) off st d)) :
    ∃ φ', StX w0 M S0 N S φ' (updH F t k (updAt cs off st (splice r j out))) a w ∧ ∀ s b o, φ' s b o → φ s b o ∨ V b o := by
  by_cases hst : st = []
  · subst hst
    simp only [rowAt, Option.some.injEq, Prod.mk.injEq] at hr
    obtain ⟨rfl, rfl⟩ := hr
    obtain ⟨X1, Y, e1, e2, e3, e4, e5⟩ := h.relTop hF
    refine ⟨_, e5 (splice cs off out) (fun b o => Y b o ∨ V b o) (splice_len hn) ((e4.join hrow hn (fun b o hb hv => (hV b o hv).1 t (e2 b o hb))).congr fun d hd => ?_) (fun b o hb => hb.imp id (hV b o)), fun s b o hb => ?_⟩
    · split
      · rename_i hq
        simp only [cellv]
        rw [show off + (d - off) = d by omega]
      · rfl
    · replace hb : (if s = t then (fun b o => X1 b o ∨ (Y b o ∨ V b o)) else φ s) b o := hb
      by_cases e : s = t
      · subst e
        rw [if_pos rfl] at hb
        rcases hb with hb | hb | hb
        · exact .inl (e1 b o hb)
        · exact .inl (e2 b o hb)
        · exact .inr hb
      · rw [if_neg e] at hb; exact .inl hb
  · obtain ⟨g, b, u', Y, e1, e2, e3, e4, e5, e6⟩ := h.focus hF hst hr ho
    refine ⟨_, e6 w (splice r j out) u' (fun x o => Y x o ∨ V x o) NO (Keeps.refl _ _) (fun _ _ h => h.elim) (fun d hd => (e5 d hd).2.2) (splice_len hn) ((e2.join hrow hn (fun x o hx hv => (hV x o hv).1 t (e1 x o hx))).congr fun d hd => ?_) (fun x o hx => hx.imp id (hV x o)), fun s x o hx => ?_⟩
    · split
      · rename_i hq
        rw [e3 (d - j) (by omega), show j + (d - j) = d by omega]
      · rfl
    · replace hx : (if s = t then (fun x o => (φ t x o ∧ ¬ Y x o) ∨ (Y x o ∨ V x o)) else φ s) x o := hx
      by_cases e : s = t
      · subst e
        rw [if_pos rfl] at hx
        rcases hx with hx | hx | hx
        · exact .inl hx.1
        · exact .inl (e1 x o hx)
        · exact .inr hx
      · rw [if_neg e] at hx; exact .inl hx
/-- What a place holds does not change where only cells that are nobody's are written. -/
theorem StX.cellv_same (h : StX w0 M S0 N S φ F a w) {t : Nat} {k : Kd} {cs r : List C} {off j : Nat} {st : Steps} (hF : F t = .hold k cs) (hr : rowAt cs off st = some (r, j)) {V : CellSet} (hk : Keeps V w w1) (hV : Free w0 M S φ w V) :
    ∀ d, j + d < r.length → cellv w1 (topU w1 k (tvs a t)) off st d = cellv w (topU w k (tvs a t)) off st d := by
  have hs := h.slot t
  rw [hF] at hs
  obtain ⟨X1, Y0, h1, h2, h3, h4, h5⟩ := hs
  have hphi : SameOn (φ t) w w1 := fun b o hb => ⟨hk.cel b o (h.ex t b o hb).1 (fun hv => (hV b o hv).1 t hb), hk.fro b o (h.ex t b o hb).1 (fun hv => (hV b o hv).1 t hb)⟩
  have hS : SameOn S w w1 := fun b o hb => ⟨hk.cel b o (h.sup b o hb).1 (fun hv => (hV b o hv).2.1 hb), hk.fro b o (h.sup b o hb).1 (fun hv => (hV b o hv).2.1 hb)⟩
  exact (Row.last hS st none h5 hr (fun b o hb => hphi b o (h2 b o hb)) (fun x hx => topU_same h4 (fun b o hb => hphi b o (h1 b o hb)) x hx)).2
end
end Go.Proofs.YthinjmmlpgjhnaaGreat.Ab
