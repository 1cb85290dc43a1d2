/- build, slice literals, append, makeSlice, field, convert as operations that write only their own slot, on abstract frames. No condition. -/
import Derived.Test.YthinjmmlpgjhnaaGreatAbT
import Derived.Test.YthinjmmlpgjhnaaGreatAbA
import Derived.Laws.Tables
import Derived.Great.BuildSlice
namespace Go.Proofs.YthinjmmlpgjhnaaGreat.Ab
open Go.RowKit

/-- A list of cells, told cell by cell. -/
def fc : List C → (List C → Prop) → Prop
  | [], K => K []
  | c :: cs, K => fc cs fun t => K (c :: t)
theorem fc_eq : ∀ (cs : List C) (K : List C → Prop), fc cs K = K cs
  | [], _ => rfl
  | c :: cs, K => by rw [fc, fc_eq cs]
def chunk (k : Nat) : Nat → List C → List (List C)
  | 0, _ => []
  | n + 1, cs => cs.take k :: chunk k n (cs.drop k)
def chA (k : Nat) : Nat → List C → (List (List C) → Prop) → Prop
  | 0, _, K => K []
  | n + 1, cs, K => fc (cs.take k) fun r => chA k n (cs.drop k) fun rs => K (r :: rs)
theorem chA_eq (k : Nat) : ∀ (n : Nat) (cs : List C) (K : List (List C) → Prop), chA k n cs K = K (chunk k n cs)
  | 0, _, _ => rfl
  | n + 1, cs, K => by rw [chA, fc_eq, chA_eq k n]; rfl
/-- Where the parts of a struct lie. -/
def plF (TE : Nat → Option TI) (flds : List (Nat × Nat)) (i : Nat) : Option (Nat × Nat) :=
  match flds[i]? with
  | some p => (match TE p.2 with | some ti => some (p.1, ti.size) | none => none)
  | none => none
def allT (TE : Nat → Option TI) : List (Nat × Nat) → Bool
  | [] => true
  | p :: l => (TE p.2).isSome && allT TE l
def plS (size i : Nat) : Option (Nat × Nat) := some (i * size, size)
/-- Parts laid into cells. -/
def fillP (F : Nat → AV) (pl : Nat → Option (Nat × Nat)) : List (Nat × Operand) → List C → (List C → Prop) → Prop
  | [], cs, K => K cs
  | p :: rest, cs, K => match pl p.1 with
    | some q => valA F (evA F p.2) fun _ xs => bif noOwn xs && Nat.beq xs.length q.2 && Nat.ble (q.1 + q.2) cs.length then fc (splice cs q.1 xs) fun cs' => fillP F pl rest cs' K else False
    | none => False
def aBuild (TE : Nat → Option TI) (F : Nat → AV) (T : Nat) (parts : List (Nat × Operand)) (K : AV → Prop) : Prop :=
  match TE T with
  | some ⟨_, _, zero, .st flds⟩ => bif allT TE flds then fillP F (plF TE flds) parts zero fun cs => K (.hold .agg cs) else False
  | _ => False
def rep (z : List C) : Nat → List C
  | 0 => []
  | n + 1 => z ++ rep z n
/-- The element type of a slice type. -/
def elT (TE : Nat → Option TI) (T : Nat) (K : Nat → TI → Prop) : Prop :=
  match TE T with
  | some ⟨_, _, _, .sl e⟩ => (match TE e with
    | some ie => bif Nat.beq ie.zero.length ie.size && Nat.ble 1 ie.size then K e ie else False
    | none => False)
  | _ => False
def aBuildS (TE : Nat → Option TI) (F : Nat → AV) (T n : Nat) (parts : List (Nat × Operand)) (K : AV → Prop) : Prop :=
  elT TE T fun _ ie => bif Nat.ble (n * ie.size) 16777216 then (match n, parts with
    | 0, [] => K (.hold .one [.z])
    | n + 1, parts => fc (rep ie.zero (n + 1)) fun cs => fillP F (plS ie.size) parts cs fun cs' => chA ie.size (n + 1) cs' fun rows => K (.hold .one [.s .own rows])
    | _, _ => False) else False
/-- Elements that may be copied. -/
inductive Fl (rows : List (List C)) (sz by_ : Nat) (X : Prop) : Prop
  | mk_ (h : (∀ r ∈ rows, r.length = sz ∧ noOwn r = true) ∧ rows.length ≤ 140737488355328 ∧ rows.length * by_ ≤ 140737488355328 ∧ X)
theorem Fl.mk {rows : List (List C)} {sz by_ : Nat} {X : Prop} (h1 : ∀ r ∈ rows, r.length = sz ∧ noOwn r = true) (h2 : rows.length ≤ 140737488355328) (h3 : rows.length * by_ ≤ 140737488355328) (hX : X) : Fl rows sz by_ X := by refine .mk_ ?_; exact ⟨h1, h2, h3, hX⟩
theorem Fl.out {rows : List (List C)} {sz by_ : Nat} {X : Prop} (h : Fl rows sz by_ X) : (∀ r ∈ rows, r.length = sz ∧ noOwn r = true) ∧ rows.length ≤ 140737488355328 ∧ rows.length * by_ ≤ 140737488355328 ∧ X := by obtain ⟨h⟩ := h; exact h
/-- append to nothing. -/
def aAppP (TE : Nat → Option TI) (F : Nat → AV) (T : Nat) (x y : Operand) (K : AV → Prop) : Prop :=
  elT TE T fun _ ie => valA F (evA F x) fun ag cs => match ag, cs with
    | none, [.z] => valA F (evA F y) fun ag2 cs2 => match ag2, cs2 with
      | none, [.s _ rows] => Fl rows ie.size ie.bytes (K (.hold .one [.s .own rows]))
      | none, [.z] => K (.hold .one [.z])
      | _, _ => False
    | _, _ => False

section
variable {P : Program} {w0 w w1 : World} {M S0 S : CellSet} {N : Lim} {φ : Nat → CellSet} {F : Nat → AV} {a : Act} {TE : Nat → Option TI}

theorem mid_get {α : Type} (l xs : List α) {p q : Nat} (hp : p ≤ l.length) (hq : q = p + xs.length) (j : Nat) : (l.take p ++ xs ++ l.drop q)[j]? = if j < p then l[j]? else if j < q then xs[j - p]? else l[j]? := by
  subst hq
  have hm : (l.take p).length = p := by simp; omega
  by_cases h1 : j < p
  · rw [if_pos h1, List.append_assoc, List.getElem?_append_left (by omega), List.getElem?_take, if_pos h1]
  · rw [if_neg h1]
    by_cases h2 : j < p + xs.length
    · rw [if_pos h2, List.append_assoc, List.getElem?_append_right (by omega), hm, List.getElem?_append_left (by omega)]
    · rw [if_neg h2, List.append_assoc, List.getElem?_append_right (by omega), hm, List.getElem?_append_right (by omega), List.getElem?_drop]
      congr 1; omega
theorem splice_cells {off : Nat} : ∀ (xs : List Value) (k : Nat) (cells : Array Value), off + k + xs.length ≤ cells.size →
    ((xs.zipIdx k).foldl (fun cs (c, j) => cs.setIfInBounds (off + j) c) cells).toList = cells.toList.take (off + k) ++ xs ++ cells.toList.drop (off + k + xs.length)
  | [], k, cells, _ => by simp
  | x :: xs, k, cells, h => by
    simp only [List.length_cons] at h
    simp only [List.zipIdx_cons, List.foldl_cons]
    rw [splice_cells xs (k + 1) _ (by simp; omega)]
    apply List.ext_getElem?
    intro j
    rw [mid_get _ _ (by simp; omega) rfl, mid_get _ _ (by simp; omega) rfl]
    simp only [Array.toList_setIfInBounds, List.length_cons, List.getElem?_set, Array.length_toList]
    by_cases h1 : j < off + k
    · rw [if_pos (by omega), if_pos h1, if_neg (by omega)]
    · rw [if_neg h1]
      by_cases h2 : j = off + k
      · subst h2
        rw [if_pos (by omega), if_pos rfl, if_pos (by omega), if_pos (by omega)]
        simp
      · rw [if_neg (by omega)]
        by_cases h3 : j < off + k + (xs.length + 1)
        · rw [if_pos (by omega), if_pos h3, show j - (off + k) = (j - (off + (k + 1))) + 1 by omega, List.getElem?_cons_succ]
        · rw [if_neg (by omega), if_neg h3, if_neg (by omega)]
theorem range_splice {cs xs : List C} {off : Nat} (h : off + xs.length ≤ cs.length) (u u2 : Nat → Value) :
    (List.range (splice cs off xs).length).map (fun j => if off ≤ j ∧ j < off + xs.length then u2 (j - off) else u j) = ((List.range cs.length).map u).take off ++ (List.range xs.length).map u2 ++ ((List.range cs.length).map u).drop (off + xs.length) := by
  rw [splice_len h]
  apply List.ext_getElem?
  intro j
  rw [mid_get _ _ (by simp; omega) (by simp), List.getElem?_map, List.getElem?_map, List.getElem?_map]
  by_cases h1 : j < cs.length
  · rw [List.getElem?_range h1]
    simp only [Option.map_some]
    by_cases h2 : off ≤ j ∧ j < off + xs.length
    · rw [if_pos h2, if_neg (by omega), if_pos h2.2, List.getElem?_range (by omega)]; rfl
    · rw [if_neg h2]
      by_cases h3 : j < off
      · rw [if_pos h3]
      · rw [if_neg h3, if_neg (by omega)]
  · rw [List.getElem?_eq_none (by simp; omega)]
    rw [if_neg (by omega), if_neg (by omega)]; rfl
/-- One part. -/
theorem fill_step {pl : Nat → Option (Nat × Nat)} {i : Nat} {q : Nat × Nat} (hq : pl i = some q) {cs xs : List C} {u u2 : Nat → Value} {cells : Array Value} {v : Value} {rest : List (Nat × Value)} (hcl : cells.toList = (List.range cs.length).map u)
    (hv : v.cells.toList = (List.range xs.length).map u2) (h1 : xs.length = q.2) (h2 : q.1 + q.2 ≤ cs.length) :
    ∃ cells', Instr.fill pl cells ((i, v) :: rest) = Instr.fill pl cells' rest ∧ cells'.toList = (List.range (splice cs q.1 xs).length).map (fun j => if q.1 ≤ j ∧ j < q.1 + xs.length then u2 (j - q.1) else u j) := by
  obtain ⟨off, size⟩ := q
  simp only at h1 h2
  have hvs : v.cells.size = xs.length := by have := congrArg List.length hv; simpa using this
  have hcs : cells.size = cs.length := by have := congrArg List.length hcl; simpa using this
  refine ⟨_, by simp only [Instr.fill, hq]; rw [if_neg (by simp; omega)], ?_⟩
  have := splice_cells (off := off) v.cells.toList 0 cells (by simp; omega)
  rw [← Array.toList_zipIdx, Array.foldl_toList] at this
  rw [this, range_splice (by omega), hcl, hv]
  simp
theorem StX.fillP (h : StX w0 M S0 N S φ F a w) {pl : Nat → Option (Nat × Nat)} : ∀ {parts : List (Nat × Operand)} {cs : List C} {K : List C → Prop} {u : Nat → Value} {cells : Array Value}, Ab.fillP F pl parts cs K → Row w S NO cs u → cells.toList = (List.range cs.length).map u →
    ∃ cs' u' cells', K cs' ∧ cs'.length = cs.length ∧ Row w S NO cs' u' ∧ Instr.fill pl cells (parts.map fun p => (p.1, a.eval p.2)) = some cells' ∧ cells'.toList = (List.range cs'.length).map u'
  | [], cs, K, u, cells, hp, hr, hc => ⟨cs, u, cells, hp, rfl, hr, rfl, hc⟩
  | p :: rest, cs, K, u, cells, hp, hr, hc => by
    simp only [Ab.fillP] at hp
    split at hp
    case h_2 => exact hp.elim
    rename_i q hq
    obtain ⟨ag, xs, Y, hK, hv, -⟩ := h.val (h.ev p.2) hp
    cases hb : (noOwn xs && Nat.beq xs.length q.2 && Nat.ble (q.1 + q.2) cs.length) with
    | false => rw [hb] at hK; exact hK.elim
    | true =>
      rw [hb] at hK
      simp only [Bool.and_eq_true] at hb
      have h1 := Nat.eq_of_beq_eq_true hb.1.2
      have h2 := Nat.le_of_ble_eq_true hb.2
      simp only [cond_true, fc_eq] at hK
      obtain ⟨u2, hu2, hr2⟩ := hv.cells
      obtain ⟨cells1, hf, hc1⟩ := fill_step (rest := rest.map fun p => (p.1, a.eval p.2)) hq hc hu2 h1 h2
      have hr3 := (hr.join (hr2.bare (F' := NO) hb.1.1) (off := q.1) (by omega) (fun _ _ h => h.elim)).mono (F' := NO) (fun _ _ h => h) (fun _ _ h => h.elim id id)
      obtain ⟨cs', u', cells', e1, e2, e3, e4, e5⟩ := StX.fillP h hK hr3 hc1
      exact ⟨cs', u', cells', e1, by rw [e2, splice_len (by omega)], e3, by rw [List.map_cons, hf]; exact e4, e5⟩
theorem mapM_places (hTE : ∀ t i, TE t = some i → TOk P t i) : ∀ {fs : List Field} {flds : List (Nat × Nat)}, fs.map (fun f => (f.offset, f.type)) = flds → allT TE flds = true →
    ∃ pls : List (Nat × Nat), fs.mapM (fun f => (P.info? f.type).map fun i => (f.offset, i.size)) = some pls ∧ ∀ i, pls[i]? = plF TE flds i
  | [], flds, h, _ => by subst h; exact ⟨[], by simp, fun i => by simp [plF]⟩
  | f :: fs, flds, h, ha => by
    subst h
    simp only [List.map_cons, allT, Bool.and_eq_true] at ha
    obtain ⟨pls, h1, h2⟩ := mapM_places hTE (fs := fs) rfl ha.2
    cases ht : TE f.type with
    | none => rw [ht] at ha; cases ha.1
    | some ti =>
      have hsz := (hTE _ _ ht).size
      cases hi : P.info? f.type with
      | none => rw [hi] at hsz; cases hsz
      | some ii =>
        rw [hi] at hsz
        simp only [Option.map_some, Option.some.injEq] at hsz
        refine ⟨(f.offset, ti.size) :: pls, ?_, fun i => ?_⟩
        · simp [List.mapM_cons, hi, h1, hsz]
        · cases i with
          | zero => simp [plF, ht]
          | succ i => simp only [List.getElem?_cons_succ, h2 i, plF, List.map_cons]
theorem run_build_ (hTE : ∀ t i, TE t = some i → TOk P t i) {T size bytes : Nat} {zero : List C} {flds : List (Nat × Nat)} (hT : TE T = some ⟨size, bytes, zero, .st flds⟩) (ha : allT TE flds = true) {parts : Array (Nat × Value)} {cells' : Array Value}
    (hf : ∀ cells : Array Value, cells.toList = zero.map cval → Instr.fill (plF TE flds) cells parts.toList = some cells') : (Instr.build T parts).run P w = .ok (.agg cells') w := by
  refine run_build w T parts cells' ?_
  have hz := (hTE _ _ hT).1
  obtain ⟨fs, hu, hfs⟩ := (hTE _ _ hT).2.2
  obtain ⟨pls, h1, h2⟩ := mapM_places (P := P) hTE hfs ha
  unfold Program.built
  cases hi : P.info? T with
  | none => rw [hi] at hz; cases hz
  | some q =>
    rw [hi] at hz
    simp only [Option.map_some, Option.some.injEq, Prod.mk.injEq] at hz
    cases hq : q.zero with
    | none => rw [hq] at hz; cases hz.1
    | some z =>
      rw [hq] at hz
      simp only [hu, hq, h1]
      rw [← hf z.cells (by simpa using hz.1)]
      congr 1
      funext i
      rw [← h2 i]; simp
theorem StX.build (h : StX w0 M S0 N S φ F a w) (hTE : ∀ t i, TE t = some i → TOk P t i) {T : Nat} {parts : Array (Nat × Operand)} {K : AV → Prop} (hp : aBuild TE F T parts.toList K) :
    ∃ av v, K av ∧ (Instr.build T (parts.map fun (i, x) => (i, a.eval x))).run P w = .ok v w ∧ SlotV w S F (tvs a) NO av v := by
  unfold aBuild at hp
  split at hp
  case h_2 => exact hp.elim
  rename_i size bytes zero flds hT
  cases ha : allT TE flds with
  | false => rw [ha] at hp; exact hp.elim
  | true =>
    rw [ha] at hp
    have hzo := (hTE _ _ hT).2.1
    have hl : ∀ cells : Array Value, cells.toList = zero.map cval → cells.toList = (List.range zero.length).map (fun j => (zero.map cval).getD j undef) := fun cells hc => by
      rw [hc]
      apply List.ext_getElem?
      intro j
      rw [List.getElem?_map, List.getElem?_map]
      by_cases hj : j < zero.length
      · rw [List.getElem?_range hj, List.getElem?_eq_getElem hj]; simp [List.getD, hj]
      · rw [List.getElem?_eq_none (by omega), List.getElem?_eq_none (by simp; omega)]; rfl
    obtain ⟨cs', u', cells', e1, e2, e3, e4, e5⟩ := h.fillP hp (zero_row hzo S) (hl ((zero.map cval).toArray) (by simp))
    refine ⟨_, .agg cells', e1, run_build_ hTE hT ha fun cells hc => ?_, ?_⟩
    · have : cells = (zero.map cval).toArray := by apply Array.ext'; simpa using hc
      rw [this, Array.toList_map]
      exact e4
    · have hsz : cells'.size = cs'.length := by have := congrArg List.length e5; simpa using this
      refine ValOk.slot (ag := some cs'.length) (v := .agg cells') ⟨rfl, u', ?_, e3⟩
      simp only [mkv]
      congr 1
      apply Array.ext'
      rw [e5]
theorem chunk_get (k : Nat) : ∀ (n : Nat) (cs : List C) (i : Nat), (chunk k n cs)[i]? = if i < n then some ((cs.drop (i * k)).take k) else none
  | 0, _, i => by simp [chunk]
  | n + 1, cs, 0 => by simp [chunk]
  | n + 1, cs, i + 1 => by
    simp only [chunk, List.getElem?_cons_succ]
    rw [chunk_get k n, List.drop_drop, show k + i * k = (i + 1) * k by rw [Nat.add_mul]; omega]
    by_cases h : i < n
    · rw [if_pos h, if_pos (by omega)]
    · rw [if_neg h, if_neg (by omega)]
theorem chunk_len (k : Nat) : ∀ (n : Nat) (cs : List C), (chunk k n cs).length = n
  | 0, _ => rfl
  | n + 1, cs => by simp [chunk, chunk_len k n]
theorem rep_len (z : List C) : ∀ n, (rep z n).length = n * z.length
  | 0 => by simp [rep]
  | n + 1 => by simp [rep, rep_len z n, Nat.add_mul]; omega
theorem rep_get {z : List C} : ∀ {n j : Nat}, j < n * z.length → (rep z n)[j]? = z[j % z.length]?
  | 0, j, h => by simp at h
  | n + 1, j, h => by
    rw [Nat.add_mul] at h
    simp only [rep]
    by_cases hj : j < z.length
    · rw [List.getElem?_append_left hj, Nat.mod_eq_of_lt hj]
    · rw [List.getElem?_append_right (by omega), rep_get (by omega)]
      rw [Nat.mod_eq_sub_mod (show j ≥ z.length by omega)]
theorem Row.els {Y : CellSet} {cs : List C} {u : Nat → Value} (h : Row w S Y cs u) {k n : Nat} (hl : cs.length = n * k) : ∃ f, Els w S Y (chunk k n cs) k u f := by
  obtain ⟨f, h1, h2, h3⟩ := h
  have hlen : ∀ i, i < n → ((cs.drop (i * k)).take k).length = k := fun i hi => by
    have : (i + 1) * k ≤ n * k := Nat.mul_le_mul_right k hi
    rw [Nat.add_mul] at this
    simp; omega
  refine ⟨f, fun r hr => ?_, fun q hq => h2 q (by rw [chunk_len] at hq; omega), fun q q' hq hq' => h3 q q' (by rw [chunk_len] at hq; omega) (by rw [chunk_len] at hq'; omega), fun i j r c hi hj => ?_⟩
  · obtain ⟨i, hi⟩ := List.getElem?_of_mem hr
    rw [chunk_get] at hi
    split at hi
    · rename_i hin
      simp only [Option.some.injEq] at hi
      subst hi
      exact hlen i hin
    · cases hi
  · rw [chunk_get] at hi
    split at hi
    · rename_i hin
      simp only [Option.some.injEq] at hi
      subst hi
      have hjk : j < k := by rw [← hlen i hin]; exact (List.getElem?_eq_some_iff.1 hj).1
      rw [List.getElem?_take, if_pos hjk, List.getElem?_drop] at hj
      exact h1 _ c hj
    · cases hi
/-- Cells laid into a new block. -/
theorem new_rows {Y : CellSet} {cs : List C} {u : Nat → Value} (h : Row w S Y cs u) {k n e : Nat} (hl : cs.length = n * k) (hn : 0 < n) {cells : Array Value} (hc : cells.toList = (List.range cs.length).map u) (hS : ∀ b o, S b o → b < w.heap.size) (hY : ∀ b o, Y b o → b < w.heap.size) :
    Rep (w.alloc (.cells cells e)) S (fun b o => Y b o ∨ (w.heap.size ≤ b ∧ b < (w.alloc (.cells cells e)).heap.size)) (.s .own (chunk k n cs)) (.slice (some ⟨w.heap.size, 0, none⟩) n n) := by
  have hone : ∀ j, j < cs.length → (u j).oneCell' = true := fun j hj => h.one hj
  obtain ⟨f, hE⟩ := h.els hl
  have hE2 := hE.keep (sameOn_old (keeps_alloc w (.cells cells e)) hS) (sameOn_old (keeps_alloc w (.cells cells e)) hY)
  have hcell : ∀ q, q < n * k → cel (w.alloc (.cells cells e)) w.heap.size q = some (u q) := fun q hq => by
    rw [cel_alloc_new, ← Array.getElem?_toList, hc, List.getElem?_map, List.getElem?_range (by omega)]; rfl
  refine hE2.own (by rw [chunk_len]) (Nat.le_refl n) hn (fun q hq => ⟨.inr ⟨Nat.le_refl _, by rw [size_alloc]; omega⟩, ⟨_, hcell q hq, hone q (by omega)⟩, fro_alloc_new _ _ _ _⟩) hcell (fun b o hb => ⟨.inl hb, fun ⟨e1, _⟩ => ?_⟩)
  have := hY b o hb; omega
theorem zeros_row {z : List C} (hz : zeroOk z) (S : CellSet) (n : Nat) : Row w S NO (rep z n) (fun j => (z.map cval).getD (j % z.length) undef) := by
  obtain ⟨f, h1, -, -⟩ := zero_row (w := w) hz S
  refine ⟨fun _ => NO, fun j c hj => ?_, fun _ _ _ _ h => h, fun _ _ _ _ _ _ _ h => h.elim⟩
  have hlt := (List.getElem?_eq_some_iff.1 hj).1
  rw [rep_len] at hlt
  rw [rep_get hlt] at hj
  exact (h1 _ c hj).bare (zero_bare hz c (List.mem_of_getElem? hj))
theorem TOk.info {t : Nat} {i : TI} (h : TOk P t i) : ∃ q z, P.info? t = some q ∧ q.zero = some z ∧ z.cells.toList = i.zero.map cval ∧ q.size = i.size ∧ q.bytes = i.bytes := by
  have := h.1
  cases hq : P.info? t with
  | none => rw [hq] at this; cases this
  | some q =>
    rw [hq] at this
    simp only [Option.map_some, Option.some.injEq, Prod.mk.injEq] at this
    cases hz : q.zero with
    | none => rw [hz] at this; cases this.1
    | some z => rw [hz] at this; exact ⟨q, z, rfl, hz, by simpa using this.1, this.2.1, this.2.2⟩
theorem elT_spec {T : Nat} {K : Nat → TI → Prop} (hTE : ∀ t i, TE t = some i → TOk P t i) (h : elT TE T K) :
    ∃ e ie q z, K e ie ∧ TE e = some ie ∧ P.underlying T = some (.slice e) ∧ TOk P e ie ∧ ie.zero.length = ie.size ∧ 0 < ie.size ∧ P.info? e = some q ∧ q.zero = some z ∧ z.cells.toList = ie.zero.map cval ∧ q.size = ie.size ∧ q.bytes = ie.bytes ∧ z.cells.size = q.size := by
  unfold elT at h
  split at h
  case h_2 => exact h.elim
  rename_i e hT
  split at h
  case h_2 => exact h.elim
  rename_i ie he
  cases hb : (Nat.beq ie.zero.length ie.size && Nat.ble 1 ie.size) with
  | false => rw [hb] at h; exact h.elim
  | true =>
    rw [hb] at h
    simp only [Bool.and_eq_true] at hb
    obtain ⟨q, z, h1, h2, h3, h4, h5⟩ := (hTE _ _ he).info
    have hl := Nat.eq_of_beq_eq_true hb.1
    exact ⟨e, ie, q, z, h, he, (hTE _ _ hT).2.2, hTE _ _ he, hl, Nat.le_of_ble_eq_true hb.2, h1, h2, h3, h4, h5, by have := congrArg List.length h3; simp at this; omega⟩
theorem zero_one {zero : List C} (hz : zeroOk zero) : ∀ x ∈ zero.map cval, x.oneCell' = true := by
  induction zero with
  | nil => simp
  | cons c cs ih =>
    intro x hx
    rcases List.mem_cons.1 hx with rfl | hx
    · cases c with
      | v x => exact hz.1
      | z => rfl
      | x => exact hz.elim
      | s => exact hz.elim
      | m => exact hz.elim
    · exact ih (by cases c with | v x => exact hz.2 | z => exact hz | x => exact hz.elim | s o rows => exact hz.elim | m => exact hz.elim) x hx
theorem run_buildS0 {T e : Nat} {q : TypeInfo} (hu : P.underlying T = some (.slice e)) (hi : P.info? e = some q) : (Instr.buildSlice T 0 #[]).run P w = .ok (.slice (some ⟨w.heap.size, 0, none⟩) 0 0) (w.alloc (.cells #[] e)) := by
  simp [Instr.buildSlice, run_underlying hu, sizeOf, typeInfo, hi, newRow, Instr.fill, Array.range_zero']
theorem zeros_cells {zero : List C} {z : Value} (hz : z.cells.toList = zero.map cval) (h0 : 0 < zero.length) (m : Nat) : ((Array.range m).map (z.cells[· % z.cells.size]!)).toList = (List.range m).map (fun j => (zero.map cval).getD (j % zero.length) undef) := by
  have hs : z.cells.size = zero.length := by have := congrArg List.length hz; simpa using this
  rw [Array.toList_map, Array.toList_range]
  refine List.map_congr_left fun j hj => ?_
  have hm : j % z.cells.size < z.cells.size := Nat.mod_lt _ (by omega)
  rw [getElem!_pos z.cells _ hm, ← hz, ← hs, List.getD, Array.getElem?_toList, Array.getElem?_eq_getElem hm]; rfl
theorem one_row {Y : CellSet} {c : C} {v : Value} (h : Rep w S Y c v) {F : Nat → AV} {tv : Nat → Value} : SlotV w S F tv Y (.hold .one [c]) v := by
  refine ⟨NO, Y, fun _ _ h => h.elim, fun _ _ h => h, fun _ _ h => h.elim, rfl, fun _ => Y, fun j c' hj => ?_, fun _ _ _ _ h => h, fun j j' hj hj' hne => ?_⟩
  · cases j with
    | zero => simp at hj; subst hj; exact h
    | succ j => simp at hj
  · simp at hj hj'; omega
theorem StX.buildS (h : StX w0 M S0 N S φ F a w) (hTE : ∀ t i, TE t = some i → TOk P t i) {T n : Nat} {parts : Array (Nat × Operand)} {K : AV → Prop} (hp : aBuildS TE F T n parts.toList K) :
    ∃ av v w1, K av ∧ (Instr.buildSlice T n (parts.map fun (i, x) => (i, a.eval x))).run P w = .ok v w1 ∧ NewR w S F a av v w1 := by
  obtain ⟨e, ie, q, z, hK, he, hu, ht, hl, hpos, hi, hz, hzc, hsz, hby, hzs⟩ := elT_spec hTE hp
  cases hb : Nat.ble (n * ie.size) 16777216 with
  | false => rw [hb] at hK; exact hK.elim
  | true =>
    rw [hb] at hK
    have hle := Nat.le_of_ble_eq_true hb
    simp only [cond_true] at hK
    split at hK
    · rename_i hparts
      have : parts = #[] := by apply Array.ext'; simpa using hparts
      subst this
      refine ⟨_, _, _, hK, by rw [Array.map_empty]; exact run_buildS0 hu hi, keeps_alloc _ _, NO, S, fun _ _ h => h.elim, fun _ _ h => h, fun _ _ h => .inl h, fun _ _ h => h.elim, ?_⟩
      exact ⟨NO, NO, fun _ _ h => h, fun _ _ h => h, fun _ _ _ h => h, rfl, fun _ => NO, fun j c hj => (by cases j with | zero => simp at hj; subst hj; exact .z _ _ | succ j => simp at hj), fun _ _ _ _ h => h, fun _ _ _ _ _ _ _ h => h.elim⟩
    · rename_i n
      rw [Nat.succ_eq_add_one] at hle
      rw [fc_eq] at hK
      obtain ⟨cs', u', cells', e1, e2, e3, e4, e5⟩ := h.fillP hK (zeros_row ht.2.1 S _) (zeros_cells hzc (by omega) (rep ie.zero (n + 1)).length)
      rw [chA_eq] at e1
      have hcl : cs'.length = (n + 1) * ie.size := by rw [e2, rep_len, hl]
      refine ⟨_, _, _, e1, run_buildSlice w T e (n + 1) _ cells' q z hu hi hz (by rw [hsz]; omega) (by rw [hsz]; have : 0 < (n + 1) * ie.size := Nat.mul_pos (by omega) hpos; omega) ?_, keeps_alloc _ _, fun b _ => w.heap.size ≤ b ∧ b < (w.alloc (.cells cells' e)).heap.size, S, fun b o hb => ⟨hb.2, hb.1⟩, fun _ _ h => h, fun _ _ h => .inl h, fun b o hb hS => ?_, ?_⟩
      · rw [hsz, Array.toList_map]
        rw [rep_len, hl] at e4
        exact e4
      · have := (h.sup b o hS).1; have := hb.1; omega
      · have := (new_rows (e := e) e3 hcl (by omega) e5 (fun b o hb => (h.sup b o hb).1) (fun _ _ h => h.elim)).mono (F' := fun b o => w.heap.size ≤ b ∧ b < (w.alloc (.cells cells' e)).heap.size) (fun _ _ h => h) (fun b o hb => hb.elim (fun h => h.elim) id)
        exact one_row this
    · exact hK.elim
/-- A slice whose elements may be copied. -/
theorem Rep.flat {Y : CellSet} {o : Own} {rows : List (List C)} {v : Value} (h : Rep w S Y (.s o rows) v) {sz : Nat} (hk : ∀ r ∈ rows, r.length = sz ∧ noOwn r = true) :
    ∃ b c u, v = .slice b rows.length c ∧ Reads w b (rows.length * sz) ((List.range (rows.length * sz)).map u) ∧ Els w S NO rows sz u (fun _ => NO) := by
  have mk : ∀ (g off k : Nat) (u : Nat → Value) (f : Nat → CellSet), (∀ r ∈ rows, r.length = k) → (∀ q, q < rows.length * k → cel w g (off + q) = some (u q)) → (∀ (i j : Nat) (r : List C) (c : C), rows[i]? = some r → r[j]? = some c → Rep w S (f (i * k + j)) c (u (i * k + j))) →
      Reads w (some ⟨g, off, none⟩) (rows.length * sz) ((List.range (rows.length * sz)).map u) ∧ Els w S NO rows sz u (fun _ => NO) := fun g off k u f hkk hc hr => by
    have hks : rows ≠ [] → k = sz := fun hne => by
      obtain ⟨r, hr⟩ := List.exists_mem_of_ne_nil _ hne
      rw [← hkk r hr, (hk r hr).1]
    refine ⟨⟨by simp, fun h => (by cases h), fun ad j y had hj => ?_⟩, fun r hr => (hk r hr).1, fun _ _ _ _ h => h.elim, fun _ _ _ _ _ _ _ h => h.elim, fun i j r c hi hj => ?_⟩
    · cases had
      rw [List.getElem?_map] at hj
      have hjl : j < rows.length * sz := by
        rcases Nat.lt_or_ge j (rows.length * sz) with h | h
        · exact h
        · rw [List.getElem?_eq_none (by simpa using h)] at hj; cases hj
      rw [List.getElem?_range hjl] at hj
      simp only [Option.map_some, Option.some.injEq] at hj
      subst hj
      rw [addr_add]
      refine hc j ?_
      rw [hks (fun e => by rw [e] at hjl; simp at hjl)]; exact hjl
    · have hm := List.mem_of_getElem? hi
      have := hks (fun e => by rw [e] at hm; cases hm)
      subst this
      exact (hr i j r c hi hj).bare (noOwn_spec (hk r hm).2 j c hj)
  generalize hcc : C.s o rows = c0 at h
  cases h with
  | v => cases hcc
  | x => cases hcc
  | z => cases hcc
  | m => cases hcc
  | nil F o' a ho =>
    cases hcc
    exact ⟨a, 0, fun _ => undef, rfl, ⟨by simp, fun _ => by simp, fun ad j u _ hj => by simp at hj⟩, fun r hr => (by cases hr), fun _ _ _ _ h => h.elim, fun _ _ _ _ _ _ _ h => h.elim, fun i j r c hi => (by simp at hi)⟩
  | imm F g off k n cap rows' u hn hkk hcap hS hc =>
    cases hcc
    subst hn
    exact ⟨_, _, u, rfl, mk g off k u (fun _ => NO) hkk (fun q hq => (hS q hq).2) hc⟩
  | own F o' g k n cap rows' u f ho hn hkk hcap hpos hF hu hf hd hc =>
    cases hcc
    subst hn
    exact ⟨_, _, u, rfl, mk g 0 k u f hkk (fun q hq => by rw [Nat.zero_add]; exact hu q hq) hc⟩
theorem ValOk.rep1 {Y : CellSet} {c : C} {v : Value} (h : ValOk w S Y none [c] v) : Rep w S Y c v := by
  obtain ⟨-, u, rfl, f, h1, h2, -⟩ := h
  exact (h1 0 c rfl).mono (fun _ _ h => h) (h2 0 (by simp))
theorem rep_z {Y : CellSet} {v : Value} (h : Rep w S Y .z v) : ∃ b, v = .slice b 0 0 := by
  generalize hc : C.z = c at h
  cases h with
  | z => exact ⟨_, rfl⟩
  | _ => cases hc
theorem NewR.same {av : AV} {v : Value} (hs : SlotV w S F (tvs a) NO av v) : NewR w S F a av v w :=
  ⟨Keeps.refl _ _, NO, S, fun _ _ h => h.elim, fun _ _ h => h, fun _ _ h => .inl h, fun _ _ h => h.elim, hs⟩
theorem StX.appP (h : StX w0 M S0 N S φ F a w) (hTE : ∀ t i, TE t = some i → TOk P t i) {T ty : Nat} {x y : Operand} {K : AV → Prop} (hp : aAppP TE F T x y K) :
    ∃ av v w1, K av ∧ (Builtin.append_ #[T, T] ty #[a.eval x, a.eval y]).run P w = .ok v w1 ∧ NewR w S F a av v w1 := by
  obtain ⟨e, ie, q, z, hK, he, hu, ht, hl, hpos, hi, hz, hzc, hsz, hby, hzs⟩ := elT_spec hTE hp
  obtain ⟨ag, cs, Y, hK, hv, -⟩ := h.val (h.ev x) hK
  match ag, cs, hK with
  | none, [.z], hK =>
    obtain ⟨b, hb⟩ := rep_z hv.rep1
    obtain ⟨ag2, cs2, Y2, hK, hv2, -⟩ := h.val (h.ev y) hK
    rw [hb]
    match ag2, cs2, hK with
    | none, [.s o rows], hK =>
      obtain ⟨h1, h2, h3, hK⟩ := hK.out
      obtain ⟨b2, c2, u2, hv2, hR, hE⟩ := hv2.rep1.flat h1
      rw [hv2]
      have hz1 : ∀ x ∈ z.cells.toList, x.oneCell' = true := by rw [hzc]; exact zero_one ht.2.1
      rw [← hsz] at hR hE
      obtain ⟨v', w', hrun, hkk, hrep⟩ := own_append (P := P) (ty := ty) (S := S) hu hi hz hzs hz1 (F := NO) (rows := []) (xr := rows) (.nil _ _ b trivial) (by simp) hE (c := c2) hR (fun _ _ h => h.elim) (fun _ _ h => h.elim) (fun _ _ h => h.elim) (fun _ _ h => h.elim) (fun b o hb => (h.sup b o hb).1) (by simpa using h2) (by rw [hby]; simpa using h3)
      refine ⟨_, v', w', hK, hrun, hkk, fun b _ => w.heap.size ≤ b ∧ b < w'.heap.size, S, fun b o hb => ⟨hb.2, hb.1⟩, fun _ _ h => h, fun _ _ h => .inl h, fun b o hb hS => by have := (h.sup b o hS).1; have := hb.1; omega, one_row (hrep.mono (fun _ _ h => h) (fun b o hb => hb.elim (fun h => h.elim) (fun hb => hb.elim (fun h => h.elim) id)))⟩
    | none, [.z], hK =>
      obtain ⟨b2, hb2⟩ := rep_z hv2.rep1
      rw [hb2]
      exact ⟨_, _, w, hK, app_nothing hu hi (Nat.le_refl 0), NewR.same (one_row (Y := NO) (.z _ _))⟩
end
end Go.Proofs.YthinjmmlpgjhnaaGreat.Ab
