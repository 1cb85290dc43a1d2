/- append, on slices of the call's own. No condition. -/
import Derived.Test.YthinjmmlpgjhnaaGreatAbN
import Derived.Laws.Append
import Derived.Laws.AppendOwn
namespace Go.Proofs.YthinjmmlpgjhnaaGreat.Ab
open Go.RowKit

section
variable {P : Program} {w0 w w1 : World} {M S0 S : CellSet} {N : Lim} {φ : Nat → CellSet} {F : Nat → AV} {a : Act} {TE : Nat → Option TI}

/-- The cells that a slice leads to. -/
def Reads (w : World) (b : Option Addr) (n : Nat) (news : List Value) : Prop := news.length = n ∧ (b = none → n = 0) ∧ ∀ ad j u, b = some ad → news[j]? = some u → w.cell? (ad.add j) = some u
theorem first_run {size m : Nat} {b : Option Addr} {c : Nat} {news : List Value} (h : Reads w b (m * size) news) : (Builtin.firstCells size m (.slice b m c)).run P w = .ok news.toArray w := by
  obtain ⟨h1, h2, h3⟩ := h
  cases b with
  | none =>
    have : news = [] := List.eq_nil_of_length_eq_zero (by rw [h1]; exact h2 rfl)
    subst this
    rfl
  | some ad =>
    exact run_firstCells_some (P := P) w size m ad m c news h1 (fun j v hj => h3 ad j v rfl hj)
theorem keeps_setCells {g : Nat} {X : CellSet} : ∀ (vs : List Value) (o : Nat) (w : World), (∀ j, j < vs.length → X g (o + j)) → Keeps X w (w.setCells g o vs) := by
  have hkept : ∀ (vs : List Value) (o : Nat) (w : World), (w.setCells g o vs).os = w.os ∧ (w.setCells g o vs).tape = w.tape ∧ (w.setCells g o vs).output = w.output ∧ (w.setCells g o vs).heap.size = w.heap.size ∧ ∀ b, b ≠ g → (w.setCells g o vs).heap[b]? = w.heap[b]? := by
    intro vs
    induction vs with
    | nil => exact fun _ _ => ⟨rfl, rfl, rfl, rfl, fun _ _ => rfl⟩
    | cons x vs ih =>
      intro o w
      obtain ⟨i1, i2, i3, i4, i5⟩ := ih (o + 1) (w.setCell ⟨g, o, none⟩ x)
      exact ⟨i1, i2, i3, i4.trans (by simp [World.setCell]), fun b hb => (i5 b hb).trans (Below.heap_setCell w ⟨g, o, none⟩ x b hb)⟩
  intro vs o w hX
  obtain ⟨i1, i2, i3, i4, i5⟩ := hkept vs o w
  refine ⟨i1, i2, i3, by omega, fun b hb hn => ?_, fun b o' hb hn => ?_, fun b o' _ _ => Prod.ext (World.frozen?_setCells g _ _ w ⟨b, o', none⟩) (mp_setCells _ _ _ _ _)⟩
  · by_cases he : b = g
    · subst he
      cases vs with
      | nil => rfl
      | cons x vs => exact absurd (hX 0 (by simp)) (hn _)
    · exact i5 b he
  · refine World.cell?_setCells_out g vs o w ⟨b, o', none⟩ (fun e _ => ?_)
    simp only at e ⊢
    subst e
    by_cases h1 : o' < o
    · exact .inl h1
    · by_cases h2 : o + vs.length ≤ o'
      · exact .inr h2
      · have := hX (o' - o) (by omega)
        rw [show o + (o' - o) = o' by omega] at this
        exact absurd this hn
theorem cel_setCells_out {g o : Nat} {vs : List Value} {w : World} {b q : Nat} (h : ¬ (b = g ∧ o ≤ q ∧ q < o + vs.length)) : cel (w.setCells g o vs) b q = cel w b q :=
  World.cell?_setCells_out g vs o w ⟨b, q, none⟩ (fun e _ => by simp only at e ⊢; omega)
theorem cel_setCells_in {g o : Nat} {vs : List Value} {w : World} {j : Nat} {x : Value} (h : ∀ j, j < vs.length → ∃ z, cel w g (o + j) = some z) (hj : vs[j]? = some x) : cel (w.setCells g o vs) g (o + j) = some x := by
  have hl := (List.getElem?_eq_some_iff.1 hj).1
  have := World.cell?_setCells_in g vs o w (fun j hj => by obtain ⟨z, hz⟩ := h j hj; show (cel w g _).isSome = true; rw [hz]; rfl) j hl
  show World.cell? _ _ = _
  rw [this, ← (List.getElem?_eq_some_iff.1 hj).2]
theorem fro_setCells (g o : Nat) (vs : List Value) (w : World) (b q : Nat) : fro (w.setCells g o vs) b q = fro w b q := Prod.ext (World.frozen?_setCells g _ _ w ⟨b, q, none⟩) (mp_setCells _ _ _ _ _)
theorem app_room {t ty e : Nat} {i : TypeInfo} (ht : P.underlying t = some (.slice e)) (hi : P.info? e = some i) {g n cap m c : Nat} {b : Option Addr} {news : List Value} (h1 : Reads w b (m * i.size) news) (hone : ∀ u ∈ news, u.oneCell' = true)
    (hroom : n + m ≤ cap) (hc : ∀ j, j < news.length → (∃ z, cel w g (n * i.size + j) = some z) ∧ fro w g (n * i.size + j) = NF) :
    (Builtin.append_ #[t, t] ty #[.slice (some ⟨g, 0, none⟩) n cap, .slice b m c]).run P w = .ok (.slice (some ⟨g, 0, none⟩) (n + m) cap) (w.setCells g (n * i.size) news) := by
  have hf := first_run (P := P) (c := c) h1
  have hst := run_storeCells_cells (P := P) g (n * i.size) news 0 w (fun j hj => by obtain ⟨z, hz⟩ := (hc j hj).1; simp only [Nat.add_zero]; show (cel w g _).isSome = true; rw [hz]; rfl) (fun j hj => by simp only [Nat.add_zero]; exact congrArg Prod.fst (hc j hj).2) hone
  simp only [Nat.add_zero] at hst
  simp [Builtin.append_, run_underlying ht, sizeOf, typeInfo, hi, Builtin.lenOf, hroom, hf, addr_add, hst]
theorem app_nothing {t ty e : Nat} {i : TypeInfo} (ht : P.underlying t = some (.slice e)) (hi : P.info? e = some i) {n cap c : Nat} {a0 b : Option Addr} (hroom : n ≤ cap) :
    (Builtin.append_ #[t, t] ty #[.slice a0 n cap, .slice b 0 c]).run P w = .ok (.slice a0 n cap) w := by
  have hf : (Builtin.firstCells i.size 0 (.slice b 0 c)).run P w = .ok #[] w := by cases b <;> simp [Builtin.firstCells, loadCells, loadCellsFrom]
  cases a0 <;> simp [Builtin.append_, run_underlying ht, sizeOf, typeInfo, hi, Builtin.lenOf, hroom, hf, storeCells]
theorem app_grow {t ty e : Nat} {i : TypeInfo} {z : Value} (ht : P.underlying t = some (.slice e)) (hi : P.info? e = some i) (hz : i.zero = some z) {n cap m c : Nat} {a0 b : Option Addr} {olds news : List Value} (h0 : Reads w a0 (n * i.size) olds) (h1 : Reads w b (m * i.size) news)
    (hg : cap < n + m) (h63 : n + m ≤ 140737488355328) (hb : (n + m) * i.bytes ≤ 140737488355328) :
    (Builtin.append_ #[t, t] ty #[.slice a0 n cap, .slice b m c]).run P w =
      .ok (.slice (some ⟨w.heap.size, 0, none⟩) (n + m) (grownCap w (n + m) cap e)) (w.drew.alloc (.cells (olds.toArray ++ news.toArray ++ Builtin.zeroCells z.cells (grownCap w (n + m) cap e - (n + m))) e)) := by
  have hn : ¬ (n + m ≤ cap) := by omega
  have h63' : ¬ (9223372036854775807 < ((n : Int) + (m : Int))) := by omega
  have h48' : ¬ (281474976710656 < Builtin.nextslicecap (n + m) cap * i.bytes) := by have := growslice_fits hg hb; omega
  have hf := first_run (P := P) (w := w.drew) (c := c) (show Reads w.drew b (m * i.size) news from h1)
  have hfo := first_run (P := P) (w := w.drew) (c := cap) (show Reads w.drew a0 (n * i.size) olds from h0)
  simp [Builtin.append_, run_underlying ht, sizeOf, typeInfo, zeroValue, hi, hz, Builtin.lenOf, hn, h63', h48', Question.forced, hf, hfo, newRow, grownCap]
  congr 2
  apply Array.ext'
  simp

/-- Elements of a slice: their data, their values, what belongs to each. -/
structure Els (w : World) (S V : CellSet) (rows : List (List C)) (k : Nat) (u : Nat → Value) (f : Nat → CellSet) : Prop where
  hk : ∀ r ∈ rows, r.length = k
  hf : ∀ q, q < rows.length * k → ∀ b o, f q b o → V b o
  hd : ∀ q q', q < rows.length * k → q' < rows.length * k → q ≠ q' → ∀ b o, f q b o → ¬ f q' b o
  hc : ∀ (i j : Nat) (r : List C) (c : C), rows[i]? = some r → r[j]? = some c → Rep w S (f (i * k + j)) c (u (i * k + j))
theorem flat_split {n k q : Nat} (h : q < n * k) : q / k < n ∧ q % k < k ∧ q / k * k + q % k = q := by
  have hk : 0 < k := by rcases Nat.eq_zero_or_pos k with h0 | h0; subst h0; simp at h; exact h0
  exact ⟨Nat.div_lt_of_lt_mul (by rw [Nat.mul_comm]; exact h), Nat.mod_lt _ hk, by rw [Nat.mul_comm]; exact Nat.div_add_mod q k⟩
theorem Els.one {V : CellSet} {rows : List (List C)} {k : Nat} {u : Nat → Value} {f : Nat → CellSet} (h : Els w S V rows k u f) {q : Nat} (hq : q < rows.length * k) : (u q).oneCell' = true := by
  obtain ⟨h1, h2, h3⟩ := flat_split hq
  have hr : rows[q / k]? = some rows[q / k] := List.getElem?_eq_getElem h1
  have hl := h.hk _ (List.mem_of_getElem? hr)
  have hj : (rows[q / k])[q % k]? = some (rows[q / k])[q % k] := List.getElem?_eq_getElem (by omega)
  have := (h.hc _ _ _ _ hr hj).one
  rwa [h3] at this
theorem Els.keep {w' : World} {V : CellSet} {rows : List (List C)} {k : Nat} {u : Nat → Value} {f : Nat → CellSet} (h : Els w S V rows k u f) (hS : SameOn S w w') (hV : SameOn V w w') : Els w' S V rows k u f :=
  ⟨h.hk, h.hf, h.hd, fun i j r c hi hj => (h.hc i j r c hi hj).keep hS fun b o hb => hV b o (h.hf _ (by
    have h1 := (List.getElem?_eq_some_iff.1 hi).1
    have h2 := (List.getElem?_eq_some_iff.1 hj).1
    have h3 := h.hk r (List.mem_of_getElem? hi)
    exact flat_lt h1 (by omega)) b o hb)⟩
/-- Old elements and new ones. -/
theorem Els.append {V V' : CellSet} {rows rows' : List (List C)} {k : Nat} {u u' : Nat → Value} {f f' : Nat → CellSet} (h : Els w S V rows k u f) (h' : Els w S V' rows' k u' f') (hd : ∀ b o, V b o → ¬ V' b o) :
    Els w S (fun b o => V b o ∨ V' b o) (rows ++ rows') k (fun q => if q < rows.length * k then u q else u' (q - rows.length * k)) (fun q => if q < rows.length * k then f q else f' (q - rows.length * k)) := by
  have hlen : (rows ++ rows').length * k = rows.length * k + rows'.length * k := by rw [List.length_append, Nat.add_mul]
  refine ⟨fun r hr => (List.mem_append.1 hr).elim (h.hk r) (h'.hk r), fun q hq b o hb => ?_, fun q q' hq hq' hne b o hb hb' => ?_, fun i j r c hi hj => ?_⟩
  · rw [hlen] at hq
    by_cases hl : q < rows.length * k
    · rw [if_pos hl] at hb; exact .inl (h.hf q hl b o hb)
    · rw [if_neg hl] at hb; exact .inr (h'.hf _ (by omega) b o hb)
  · rw [hlen] at hq hq'
    by_cases hl : q < rows.length * k
    · rw [if_pos hl] at hb
      by_cases hl' : q' < rows.length * k
      · rw [if_pos hl'] at hb'; exact h.hd q q' hl hl' hne b o hb hb'
      · rw [if_neg hl'] at hb'; exact hd b o (h.hf q hl b o hb) (h'.hf _ (by omega) b o hb')
    · rw [if_neg hl] at hb
      by_cases hl' : q' < rows.length * k
      · rw [if_pos hl'] at hb'; exact hd b o (h.hf q' hl' b o hb') (h'.hf _ (by omega) b o hb)
      · rw [if_neg hl'] at hb'; exact h'.hd _ _ (by omega) (by omega) (by omega) b o hb hb'
  · by_cases hl : i < rows.length
    · rw [List.getElem?_append_left hl] at hi
      have h2 := (List.getElem?_eq_some_iff.1 hj).1
      have h3 := h.hk r (List.mem_of_getElem? hi)
      have hq : i * k + j < rows.length * k := flat_lt hl (by omega)
      simp only [if_pos hq]
      exact h.hc i j r c hi hj
    · rw [List.getElem?_append_right (by omega)] at hi
      have hge : rows.length * k ≤ i * k := Nat.mul_le_mul_right k (by omega)
      have hq : ¬ i * k + j < rows.length * k := by omega
      simp only [if_neg hq]
      have := h'.hc (i - rows.length) j r c hi hj
      rw [Nat.sub_mul] at this
      rw [show i * k + j - rows.length * k = i * k - rows.length * k + j by omega]
      exact this
/-- Elements in a block of the call's own. -/
theorem Els.own {V : CellSet} {rows : List (List C)} {k : Nat} {u : Nat → Value} {f : Nat → CellSet} (h : Els w S V rows k u f) {g n cap : Nat} {X : CellSet} (hn : rows.length = n) (hcap : n ≤ cap) (hpos : 0 < n) (hX : ∀ q, q < cap * k → X g q ∧ (∃ z, cel w g q = some z ∧ z.oneCell' = true) ∧ fro w g q = NF)
    (hu : ∀ q, q < n * k → cel w g q = some (u q)) (hV : ∀ b o, V b o → X b o ∧ ¬ (b = g ∧ o < cap * k)) : Rep w S X (.s .own rows) (.slice (some ⟨g, 0, none⟩) n cap) := by
  subst hn
  exact .own _ .own g k _ cap rows u f trivial rfl h.hk hcap hpos hX hu (fun q hq b o hb => hV b o (h.hf q hq b o hb)) h.hd h.hc
theorem Rep.els {F : CellSet} {o : Own} (hoi : o ≠ .imm) {rows : List (List C)} {v : Value} (h : Rep w S F (.s o rows) v) {k : Nat} (hk : ∀ r ∈ rows, r.length = k) :
    (rows = [] ∧ ∃ a0, v = .slice a0 0 0) ∨ ∃ g cap u f, v = .slice (some ⟨g, 0, none⟩) rows.length cap ∧ 0 < rows.length ∧ rows.length ≤ cap ∧ (∀ q, q < cap * k → F g q ∧ (∃ z, cel w g q = some z ∧ z.oneCell' = true) ∧ fro w g q = NF) ∧ (∀ q, q < rows.length * k → cel w g q = some (u q)) ∧
      Els w S (fun b o => F b o ∧ ¬ (b = g ∧ o < cap * k)) rows k u f := by
  generalize hc : C.s o rows = c at h
  induction h with
  | v => cases hc
  | x => cases hc
  | z => cases hc
  | m => cases hc
  | imm => cases hc; exact absurd rfl hoi
  | nil F o a ho => cases hc; exact .inl ⟨rfl, a, rfl⟩
  | own F o g k' n cap rows' u f ho hn hk' hcap hpos hF hu hf hd hcc _ =>
    cases hc
    subst hn
    have hkk : k' = k := by
      have h0 : rows[0]? = some rows[0] := List.getElem?_eq_getElem hpos
      rw [← hk' _ (List.mem_of_getElem? h0), hk _ (List.mem_of_getElem? h0)]
    subst hkk
    exact .inr ⟨g, cap, u, f, rfl, hpos, hcap, hF, hu, hk, hf, hd, hcc⟩
/-- append. -/
theorem own_append {t ty e : Nat} {i : TypeInfo} {z : Value} (ht : P.underlying t = some (.slice e)) (hi : P.info? e = some i) (hz : i.zero = some z) (hzs : z.cells.size = i.size) (hz1 : ∀ x ∈ z.cells.toList, x.oneCell' = true) {F : CellSet} {rows xr : List (List C)} {v0 : Value} (h : Rep w S F (.s .own rows) v0)
    (hk : ∀ r ∈ rows, r.length = i.size) {V : CellSet} {u2 : Nat → Value} {f2 : Nat → CellSet} (hx : Els w S V xr i.size u2 f2) {b : Option Addr} {c : Nat} (hb : Reads w b (xr.length * i.size) ((List.range (xr.length * i.size)).map u2))
    (hFV : ∀ b o, F b o → ¬ V b o) (hFS : ∀ b o, F b o → ¬ S b o) (hFe : ∀ b o, F b o → b < w.heap.size) (hVe : ∀ b o, V b o → b < w.heap.size) (hSe : ∀ b o, S b o → b < w.heap.size)
    (h63 : rows.length + xr.length ≤ 140737488355328) (hby : (rows.length + xr.length) * i.bytes ≤ 140737488355328) :
    ∃ v' w', (Builtin.append_ #[t, t] ty #[v0, .slice b xr.length c]).run P w = .ok v' w' ∧ Keeps F w w' ∧ Rep w' S (fun b o => F b o ∨ V b o ∨ (w.heap.size ≤ b ∧ b < w'.heap.size)) (.s .own (rows ++ xr)) v' := by
  have hkx : xr.length * i.size = ((List.range (xr.length * i.size)).map u2).length := by simp
  -- a block of its own for all
  have grow : ∀ (a0 : Option Addr) (cap : Nat) (u : Nat → Value) (f : Nat → CellSet), cap < rows.length + xr.length → Reads w a0 (rows.length * i.size) ((List.range (rows.length * i.size)).map u) → Els w S F rows i.size u f → v0 = .slice a0 rows.length cap →
      ∃ v' w', (Builtin.append_ #[t, t] ty #[v0, .slice b xr.length c]).run P w = .ok v' w' ∧ Keeps F w w' ∧ Rep w' S (fun b o => F b o ∨ V b o ∨ (w.heap.size ≤ b ∧ b < w'.heap.size)) (.s .own (rows ++ xr)) v' := by
    intro a0 cap u f hlt hr hE hv
    have hrun := app_grow (P := P) (ty := ty) ht hi hz hr hb hlt h63 hby (c := c)
    have hge := grownCap_ge w (rows.length + xr.length) cap e
    refine ⟨_, _, by rw [hv]; exact hrun, Keeps.of_below (((Below.refl _ _).drew).alloc (Nat.le_refl _) _) F, ?_⟩
    generalize hcells : ((List.range (rows.length * i.size)).map u).toArray ++ ((List.range (xr.length * i.size)).map u2).toArray ++ Builtin.zeroCells z.cells (grownCap w (rows.length + xr.length) cap e - (rows.length + xr.length)) = cells
    generalize grownCap w (rows.length + xr.length) cap e = c' at hge hcells
    have hlen : cells.size = c' * i.size := by
      rw [← hcells]
      simp only [Array.size_append, List.size_toArray, List.length_map, List.length_range, size_zeroCells, hzs, ← Nat.add_mul]
      congr 1; omega
    have hk' : Keeps NO w (w.drew.alloc (.cells cells e)) := Keeps.of_below (((Below.refl _ _).drew).alloc (Nat.le_refl _) _) NO
    have hE2 := ((hE.append hx hFV).keep (sameOn_old hk' hSe) (sameOn_old hk' fun b o hb => hb.elim (hFe b o) (hVe b o)))
    have hcel : ∀ q, cel (w.drew.alloc (.cells cells e)) w.heap.size q = cells[q]? := fun q => cel_alloc_new w.drew cells e q
    have hq1 : ∀ q, q < (rows.length + xr.length) * i.size → cells[q]? = some (if q < rows.length * i.size then u q else u2 (q - rows.length * i.size)) := fun q hq => by
      rw [Nat.add_mul] at hq
      rw [← hcells, Array.append_assoc]
      by_cases h1 : q < rows.length * i.size
      · rw [Array.getElem?_append_left (by simpa using h1), if_pos h1]; simp [h1]
      · rw [Array.getElem?_append_right (by simpa using Nat.le_of_not_lt h1), if_neg h1, Array.getElem?_append_left (by simp; omega)]
        simp only [List.size_toArray, List.length_map, List.length_range, List.getElem?_toArray, List.getElem?_map]
        rw [List.getElem?_range (by omega)]; rfl
    refine hE2.own (n := rows.length + xr.length) (cap := c') (by simp) hge (by omega) (fun q hq => ?_) (fun q hq => by rw [hcel]; exact hq1 q hq) (fun b o hb => ⟨hb.elim .inl (fun h => .inr (.inl h)), fun h => by have := hb.elim (hFe b o) (hVe b o); omega⟩)
    refine ⟨.inr (.inr ⟨Nat.le_refl _, by rw [size_alloc]; exact Nat.lt_succ_self _⟩), ?_, fro_alloc_new w.drew cells e q⟩
    rw [hcel]
    have hlt' : q < cells.size := by rw [hlen]; exact hq
    refine ⟨cells[q], Array.getElem?_eq_getElem hlt', ?_⟩
    by_cases h1 : q < (rows.length + xr.length) * i.size
    · have h2 := hq1 q h1
      rw [Array.getElem?_eq_getElem hlt'] at h2
      simp only [Option.some.injEq] at h2
      rw [h2]
      have := (hE.append hx hFV).one (q := q) (by simpa using h1)
      exact this
    · have hmem : cells[q] ∈ z.cells.toList := by
        have h2 : cells[q]? = (Builtin.zeroCells z.cells (c' - (rows.length + xr.length)))[q - (rows.length + xr.length) * i.size]? := by
          rw [← hcells]
          rw [Array.getElem?_append_right (by simp [← Nat.add_mul]; omega)]
          simp [← Nat.add_mul]
        rw [Array.getElem?_eq_getElem hlt'] at h2
        have h3 : q - (rows.length + xr.length) * i.size < (c' - (rows.length + xr.length)) * z.cells.size := by
          rw [hzs, Nat.sub_mul]; omega
        have hz0 : 0 < z.cells.size := by rcases Nat.eq_zero_or_pos z.cells.size with h | h; rw [h] at h3; simp at h3; exact h
        simp only [Builtin.zeroCells] at h2
        rw [Array.getElem?_eq_getElem (by simpa using h3)] at h2
        simp only [Array.getElem_map, Array.getElem_range, Option.some.injEq] at h2
        rw [h2]
        have h4 : (q - (rows.length + xr.length) * i.size) % z.cells.size < z.cells.size := Nat.mod_lt _ hz0
        rw [getElem!_pos z.cells _ h4]
        simp
      exact hz1 _ hmem
  rcases h.els (by simp) hk with ⟨rfl, a0, rfl⟩ | ⟨g, cap, u, f, rfl, hpos, hcap, hcell, hu, hE⟩
  · by_cases hm : xr.length = 0
    · have : xr = [] := List.eq_nil_of_length_eq_zero hm
      subst this
      exact ⟨_, w, app_nothing ht hi (Nat.le_refl 0), Keeps.refl _ _, .nil _ _ _ trivial⟩
    · exact grow a0 0 (fun _ => undef) (fun _ => NO) (by simp; omega) ⟨by simp, fun _ => by simp, fun ad j u _ hj => by simp at hj⟩ ⟨fun r hr => by simp at hr, fun q hq => by simp at hq, fun q q' hq => by simp at hq, fun i j r c hi => by simp at hi⟩ rfl
  · have hmap : ∀ (n j : Nat) (y : Value) (uu : Nat → Value), ((List.range n).map uu)[j]? = some y → j < n ∧ y = uu j := fun n j y uu hj => by
      rw [List.getElem?_map] at hj
      cases hr : (List.range n)[j]? with
      | none => rw [hr] at hj; cases hj
      | some j' =>
        obtain ⟨h1, h2⟩ := List.getElem?_eq_some_iff.1 hr
        simp at h1 h2
        subst h2
        rw [hr] at hj
        simp only [Option.map_some, Option.some.injEq] at hj
        exact ⟨h1, hj.symm⟩
    by_cases hroom : rows.length + xr.length ≤ cap
    · have hin : ∀ j, j < xr.length * i.size → rows.length * i.size + j < cap * i.size := fun j hj => by
        have : (rows.length + xr.length) * i.size ≤ cap * i.size := Nat.mul_le_mul_right _ hroom
        rw [Nat.add_mul] at this; omega
      have hrun := app_room (P := P) (ty := ty) ht hi (g := g) (n := rows.length) (cap := cap) (c := c) hb (fun y hy => by
        obtain ⟨j, hj⟩ := List.getElem?_of_mem hy
        obtain ⟨h1, rfl⟩ := hmap _ _ _ _ hj
        exact hx.one h1) hroom (fun j hj => by
          have := hcell _ (hin j (by rw [← hkx] at hj; exact hj))
          exact ⟨this.2.1.imp fun _ h => h.1, this.2.2⟩)
      generalize hnews : (List.range (xr.length * i.size)).map u2 = news at hrun hkx
      have hkk : Keeps F w (w.setCells g (rows.length * i.size) news) := keeps_setCells news _ w (fun j hj => (hcell _ (hin j (by omega))).1)
      refine ⟨_, _, hrun, hkk, ?_⟩
      have hSS : SameOn S w (w.setCells g (rows.length * i.size) news) := fun b o hb => ⟨hkk.cel b o (hSe b o hb) (fun h' => hFS b o h' hb), fro_setCells _ _ _ _ _ _⟩
      have hVV : SameOn V w (w.setCells g (rows.length * i.size) news) := fun b o hb => ⟨hkk.cel b o (hVe b o hb) (fun h' => hFV b o h' hb), fro_setCells _ _ _ _ _ _⟩
      have hFF : SameOn (fun b o => F b o ∧ ¬ (b = g ∧ o < cap * i.size)) w (w.setCells g (rows.length * i.size) news) := fun b o hb => ⟨cel_setCells_out (fun ⟨e1, e2, e3⟩ => hb.2 ⟨e1, by
        have := hin (o - rows.length * i.size) (by omega); omega⟩), fro_setCells _ _ _ _ _ _⟩
      have hE2 := (hE.keep hSS hFF).append (hx.keep hSS hVV) (fun b o hb hv => hFV b o hb.1 hv)
      have hex : ∀ j, j < news.length → ∃ z, cel w g (rows.length * i.size + j) = some z := fun j hj => (hcell _ (hin j (by omega))).2.1.imp fun _ h => h.1
      refine hE2.own (n := rows.length + xr.length) (cap := cap) (by simp) hroom (by omega) (fun q hq => ?_) (fun q hq => ?_) (fun b o hb => ⟨hb.elim (fun h => .inl h.1) (fun h => .inr (.inl h)), fun h => hb.elim (fun h' => h'.2 h) (fun hv => ?_)⟩)
      · obtain ⟨h1, ⟨z0, h2, h2'⟩, h3⟩ := hcell q hq
        refine ⟨.inl h1, ?_, by rw [fro_setCells]; exact h3⟩
        by_cases hr : rows.length * i.size ≤ q ∧ q < rows.length * i.size + news.length
        · have h4 : news[q - rows.length * i.size]? = some (u2 (q - rows.length * i.size)) := by
            rw [← hnews, List.getElem?_map, List.getElem?_range (by omega)]; rfl
          have := cel_setCells_in hex h4
          rw [show rows.length * i.size + (q - rows.length * i.size) = q by omega] at this
          exact ⟨_, this, hx.one (by omega)⟩
        · exact ⟨z0, by rw [cel_setCells_out (by omega)]; exact h2, h2'⟩
      · rw [Nat.add_mul] at hq
        by_cases hr : q < rows.length * i.size
        · rw [if_pos hr, cel_setCells_out (by omega)]; exact hu q hr
        · rw [if_neg hr]
          have h4 : news[q - rows.length * i.size]? = some (u2 (q - rows.length * i.size)) := by
            rw [← hnews, List.getElem?_map, List.getElem?_range (by omega)]; rfl
          have := cel_setCells_in hex h4
          rwa [show rows.length * i.size + (q - rows.length * i.size) = q by omega] at this
      · obtain ⟨e1, e2⟩ := h
        subst e1
        exact hFV _ _ (hcell o e2).1 hv
    · exact grow (some ⟨g, 0, none⟩) cap u f (by omega) ⟨by simp, fun h => (by cases h), fun ad j y had hj => by
        cases had
        obtain ⟨h1, rfl⟩ := hmap _ _ _ _ hj
        rw [addr_add, Nat.zero_add]
        exact hu j h1⟩ ⟨hE.hk, fun q hq b o hb => (hE.hf q hq b o hb).1, hE.hd, hE.hc⟩ rfl
end
end Go.Proofs.YthinjmmlpgjhnaaGreat.Ab
