/- build, slice literals and append with parts that are the call's own, on abstract frames. No condition. -/
import Derived.Test.YthinjmmlpgjhnaaGreatAbV
namespace Go.Proofs.YthinjmmlpgjhnaaGreat.Ab
open Go.RowKit

/-- A value: looked at where nothing of it is the call's own, else moved out. -/
def aGive (F : Nat → AV) (x : Operand) (K : (Nat → AV) → Option Nat → List C → Prop) : Prop := valA F (evA F x) fun ag cs => bif noOwn cs then K F ag cs else aTake F x K
def fillW (pl : Nat → Option (Nat × Nat)) : List (Nat × Operand) → List C → ((Nat → AV) → List C → Prop) → (Nat → AV) → Prop
  | [], cs, K, F => K F cs
  | p :: rest, cs, K, F => match pl p.1 with
    | some q => aGive F p.2 fun F' _ xs => bif Nat.beq xs.length q.2 && Nat.ble (q.1 + q.2) cs.length then fc (splice cs q.1 xs) fun cs' => fillW pl rest cs' K F' else False
    | none => False
def aBuildW (TE : Nat → Option TI) (N : Lim) (F : Nat → AV) (d T : Nat) (parts : List (Nat × Operand)) (K : (Nat → AV) → Prop) : Prop :=
  match TE T with
  | some ⟨_, _, zero, .st flds⟩ => bif allT TE flds then fillW (plF TE flds) parts zero (fun F' cs => putD N F' d (.hold .agg cs) K) F else False
  | _ => False
def aBuildSW (TE : Nat → Option TI) (N : Lim) (F : Nat → AV) (d T n : Nat) (parts : List (Nat × Operand)) (K : (Nat → AV) → Prop) : Prop :=
  elT TE T fun _ ie => bif Nat.ble (n * ie.size) 16777216 then (match n, parts with
    | 0, [] => putD N F d (.hold .one [.z]) K
    | n + 1, parts => fc (rep ie.zero (n + 1)) fun cs => fillW (plS ie.size) parts cs (fun F' cs' => chA ie.size (n + 1) cs' fun rows => putD N F' d (.hold .one [.s .own rows]) K) F
    | _, _ => False) else False
/-- A new variable that takes its value over. -/
def aBoxW (N : Lim) (F : Nat → AV) (d : Nat) (x : Operand) (K : (Nat → AV) → Prop) : Prop := aGive F x fun F' _ cs => putD N F' d (.hold .box cs) K
/-- What an append makes. -/
inductive Ap (flat : Bool) (rows xr : List (List C)) (sz by_ : Nat) (K : List (List C) → Prop) : Prop
  | mk_ (h : (∀ r ∈ rows, r.length = sz) ∧ (∀ r ∈ xr, r.length = sz) ∧ (flat = true → ∀ r ∈ xr, noOwn r = true) ∧ rows.length + xr.length ≤ 140737488355328 ∧ (rows.length + xr.length) * by_ ≤ 140737488355328 ∧ ∃ rs, rs = rows ++ xr ∧ K rs)
theorem Ap.mk {flat : Bool} {rows xr rs : List (List C)} {sz by_ : Nat} {K : List (List C) → Prop} (h1 : ∀ r ∈ rows, r.length = sz) (h2 : ∀ r ∈ xr, r.length = sz) (h3 : flat = true → ∀ r ∈ xr, noOwn r = true) (h4 : rows.length + xr.length ≤ 140737488355328)
    (h5 : (rows.length + xr.length) * by_ ≤ 140737488355328) (h6 : rs = rows ++ xr) (hK : K rs) : Ap flat rows xr sz by_ K := by refine .mk_ ?_; exact ⟨h1, h2, h3, h4, h5, rs, h6, hK⟩
theorem Ap.out {flat : Bool} {rows xr : List (List C)} {sz by_ : Nat} {K : List (List C) → Prop} (h : Ap flat rows xr sz by_ K) :
    (∀ r ∈ rows, r.length = sz) ∧ (∀ r ∈ xr, r.length = sz) ∧ (flat = true → ∀ r ∈ xr, noOwn r = true) ∧ rows.length + xr.length ≤ 140737488355328 ∧ (rows.length + xr.length) * by_ ≤ 140737488355328 ∧ K (rows ++ xr) := by
  obtain ⟨h⟩ := h; obtain ⟨h1, h2, h3, h4, h5, rs, rfl, h6⟩ := h; exact ⟨h1, h2, h3, h4, h5, h6⟩
def srcA (F : Nat → AV) (y : Operand) (K : Bool → (Nat → AV) → List (List C) → Prop) : Prop :=
  match evA F y with
  | .hold .one [.s .own _] => aTake F y fun F' ag cs => match ag, cs with | none, [.s .own rows] => K false F' rows | _, _ => False
  | av => valA F av fun ag cs => match ag, cs with
    | none, [.s _ rows] => K true F rows
    | none, [.z] => K true F []
    | _, _ => False
def baseA (F : Nat → AV) (x : Operand) (K : (Nat → AV) → List (List C) → Prop) : Prop :=
  valA F (evA F x) fun ag cs => match ag, cs with
    | none, [.z] => K F []
    | none, [.s .own _] => aTake F x fun F' ag cs => match ag, cs with | none, [.s .own rows] => K F' rows | _, _ => False
    | _, _ => False
def aAppW (TE : Nat → Option TI) (N : Lim) (F : Nat → AV) (d T : Nat) (x y : Operand) (K : (Nat → AV) → Prop) : Prop :=
  elT TE T fun _ ie => srcA F y fun fl F' xr => baseA F' x fun F'' rows => Ap fl rows xr ie.size ie.bytes fun rs => putD N F'' d (.hold .one [.s .own rs]) K

section
variable {P : Program} {w0 w w1 : World} {M S0 S : CellSet} {N : Lim} {φ : Nat → CellSet} {F : Nat → AV} {a : Act} {TE : Nat → Option TI}

theorem StX.give (h : StX w0 M S0 N S φ F a w) {x : Operand} {K : (Nat → AV) → Option Nat → List C → Prop} (hp : aGive F x K) :
    ∃ F' ag cs V φ', K F' ag cs ∧ StX w0 M S0 N S φ' F' a w ∧ ValOk w S V ag cs (a.eval x) ∧ Free w0 M S φ' w V ∧ (∀ t b o, φ' t b o → φ t b o) ∧ (∀ b o, V b o → ∃ t, φ t b o) := by
  obtain ⟨ag, cs, Y, hK, hv, -⟩ := h.val (h.ev x) hp
  cases hn : noOwn cs with
  | true => rw [hn] at hK; exact ⟨F, ag, cs, NO, φ, hK, h, hv.bare hn, fun _ _ h => h.elim, fun _ _ _ h => h, fun _ _ h => h.elim⟩
  | false => rw [hn] at hK; exact h.taken hK
theorem StX.fillW {pl : Nat → Option (Nat × Nat)} : ∀ {parts : List (Nat × Operand)} {cs : List C} {K : (Nat → AV) → List C → Prop} {F : Nat → AV} {φ : Nat → CellSet} {u : Nat → Value} {cells : Array Value} {Y : CellSet}, StX w0 M S0 N S φ F a w → Ab.fillW pl parts cs K F → Row w S Y cs u → Free w0 M S φ w Y →
    cells.toList = (List.range cs.length).map u →
    ∃ F' φ' cs' u' cells' Y', K F' cs' ∧ StX w0 M S0 N S φ' F' a w ∧ cs'.length = cs.length ∧ Row w S Y' cs' u' ∧ Free w0 M S φ' w Y' ∧ Instr.fill pl cells (parts.map fun p => (p.1, a.eval p.2)) = some cells' ∧ cells'.toList = (List.range cs'.length).map u'
  | [], cs, K, F, φ, u, cells, Y, h, hp, hr, hY, hc => ⟨F, φ, cs, u, cells, Y, hp, h, rfl, hr, hY, rfl, hc⟩
  | p :: rest, cs, K, F, φ, u, cells, Y, h, hp, hr, hY, hc => by
    simp only [Ab.fillW] at hp
    split at hp
    case h_2 => exact hp.elim
    rename_i q hq
    obtain ⟨F', ag, xs, V, φ', hK, h', hv, hV, hs, hVt⟩ := h.give hp
    cases hb : (Nat.beq xs.length q.2 && Nat.ble (q.1 + q.2) cs.length) with
    | false => rw [hb] at hK; exact hK.elim
    | true =>
      rw [hb] at hK
      simp only [Bool.and_eq_true] at hb
      have h1 := Nat.eq_of_beq_eq_true hb.1
      have h2 := Nat.le_of_ble_eq_true hb.2
      simp only [cond_true, fc_eq] at hK
      obtain ⟨u2, hu2, hr2⟩ := hv.cells
      obtain ⟨cells1, hf, hc1⟩ := fill_step (rest := rest.map fun p => (p.1, a.eval p.2)) hq hc hu2 h1 h2
      have hr3 := hr.join hr2 (off := q.1) (by omega) (fun b o hb hb' => by obtain ⟨t, ht⟩ := hVt b o hb'; exact (hY b o hb).1 t ht)
      obtain ⟨F2, φ2, cs', u', cells', Y', e1, e2, e3, e4, e5, e6, e7⟩ := StX.fillW h' hK hr3 ((hY.less hs).or hV) hc1
      exact ⟨F2, φ2, cs', u', cells', Y', e1, e2, by rw [e3, splice_len (by omega)], e4, e5, by rw [List.map_cons, hf]; exact e6, e7⟩
theorem StX.putD_free (h : StX w0 M S0 N S φ F a w) {d : Nat} {k : Kd} {cs : List C} {v : Value} {X : CellSet} {K : (Nat → AV) → Prop} (hv : SlotV w S F (tvs a) X (.hold k cs) v) (hX : Free w0 M S φ w X) (hp : putD N F d (.hold k cs) K) :
    ∃ F2, K F2 ∧ St w0 M S0 N F2 (a.put (some d) v) w := by
  unfold putD at hp
  cases hc : (N.free d && !(AV.hold k cs).uses d) with
  | false => rw [hc] at hp; exact hp.elim
  | true =>
    rw [hc] at hp
    simp only [Bool.and_eq_true, Bool.not_eq_true'] at hc
    exact ⟨_, hp, S, _, h.put_gen (Keeps.refl _ _) hc.1 hv hc.2 (fun b o hb => (hX b o hb).2.2) (fun t _ b o hb => (hX b o hb).1 t) (fun b o hb => (hX b o hb).2.1)⟩
theorem zero_cells {zero : List C} {cells : Array Value} (hc : cells.toList = zero.map cval) : cells.toList = (List.range zero.length).map (fun j => (zero.map cval).getD j undef) := by
  rw [hc]
  apply List.ext_getElem?
  intro j
  rw [List.getElem?_map, List.getElem?_map]
  by_cases hj : j < zero.length
  · rw [List.getElem?_range hj, List.getElem?_eq_getElem hj]; simp [List.getD, hj]
  · rw [List.getElem?_eq_none (by omega), List.getElem?_eq_none (by simp; omega)]; rfl
theorem StX.buildW (h : StX w0 M S0 N S φ F a w) (hTE : ∀ t i, TE t = some i → TOk P t i) {d T : Nat} {parts : Array (Nat × Operand)} {K : (Nat → AV) → Prop} (hp : aBuildW TE N F d T parts.toList K) :
    ∃ v F', K F' ∧ (Instr.build T (parts.map fun (i, x) => (i, a.eval x))).run P w = .ok v w ∧ St w0 M S0 N F' (a.put (some d) v) w := by
  unfold aBuildW at hp
  split at hp
  case h_2 => exact hp.elim
  rename_i size bytes zero flds hT
  cases ha : allT TE flds with
  | false => rw [ha] at hp; exact hp.elim
  | true =>
    rw [ha] at hp
    have hzo := (hTE _ _ hT).2.1
    obtain ⟨F', φ', cs', u', cells', Y', e1, e2, e3, e4, e5, e6, e7⟩ := StX.fillW h hp (zero_row hzo S) (fun _ _ h => h.elim) (zero_cells (cells := (zero.map cval).toArray) (by simp))
    have hsz : cells'.size = cs'.length := by have := congrArg List.length e7; simpa using this
    have hval : ValOk w S Y' (some cs'.length) cs' (.agg cells') := ⟨rfl, u', by simp only [mkv]; congr 1; apply Array.ext'; rw [e7], e4⟩
    obtain ⟨F2, hK, hst⟩ := e2.putD_free hval.slot e5 e1
    refine ⟨.agg cells', F2, hK, run_build_ hTE hT ha fun cells hc => ?_, hst⟩
    have : cells = (zero.map cval).toArray := by apply Array.ext'; simpa using hc
    rw [this, Array.toList_map]
    exact e6
theorem StX.buildSW (h : StX w0 M S0 N S φ F a w) (hTE : ∀ t i, TE t = some i → TOk P t i) {d T n : Nat} {parts : Array (Nat × Operand)} {K : (Nat → AV) → Prop} (hp : aBuildSW TE N F d T n parts.toList K) :
    ∃ v w1 F', K F' ∧ (Instr.buildSlice T n (parts.map fun (i, x) => (i, a.eval x))).run P w = .ok v w1 ∧ St w0 M S0 N F' (a.put (some d) v) w1 := by
  obtain ⟨e, ie, q, z, hK, he, hu, ht, hl, hpos, hi, hz, hzc, hsz, hby, hzs⟩ := elT_spec hTE hp
  cases hb : Nat.ble (n * ie.size) 16777216 with
  | false => rw [hb] at hK; exact hK.elim
  | true =>
    rw [hb] at hK
    have hle := Nat.le_of_ble_eq_true hb
    simp only [cond_true] at hK
    split at hK
    · rename_i hparts
      have : parts = #[] := by apply Array.ext'; simpa using hparts
      subst this
      have h' := h.world (w1 := w.alloc (.cells #[] e)) (keeps_alloc w _) (fun _ _ h => h.elim)
      obtain ⟨F2, hK2, hst⟩ := h'.putD_free (X := NO) (v := .slice (some ⟨w.heap.size, 0, none⟩) 0 0) (one_row (.z _ _)) (fun _ _ h => h.elim) hK
      exact ⟨_, _, F2, hK2, by rw [Array.map_empty]; exact run_buildS0 hu hi, hst⟩
    · rename_i n
      rw [Nat.succ_eq_add_one] at hle
      rw [fc_eq] at hK
      obtain ⟨F', φ', cs', u', cells', Y', e1, e2, e3, e4, e5, e6, e7⟩ := StX.fillW h hK (zeros_row ht.2.1 S _) (fun _ _ h => h.elim) (zeros_cells hzc (by omega) (rep ie.zero (n + 1)).length)
      rw [chA_eq] at e1
      have hcl : cs'.length = (n + 1) * ie.size := by rw [e3, rep_len, hl]
      have h' := e2.world (w1 := w.alloc (.cells cells' e)) (keeps_alloc w _) (fun _ _ h => h.elim)
      have hrep := new_rows (e := e) e4 hcl (by omega) e7 (fun b o hb => (e2.sup b o hb).1) (fun b o hb => (e5 b o hb).2.2.1)
      obtain ⟨F2, hK2, hst⟩ := h'.putD_free (one_row hrep) (fun b o hb => by
        rcases hb with hb | hb
        · obtain ⟨a1, a2, a3, a4⟩ := e5 b o hb
          exact ⟨a1, a2, by rw [size_alloc]; omega, a4⟩
        · exact ⟨fun t ht => by have := (e2.ex t b o ht).1; omega, fun hS => by have := (e2.sup b o hS).1; omega, hb.2, .inl (Nat.le_trans e2.old.size hb.1)⟩) e1
      refine ⟨_, _, F2, hK2, run_buildSlice w T e (n + 1) _ cells' q z hu hi hz (by rw [hsz]; omega) (by rw [hsz]; have : 0 < (n + 1) * ie.size := Nat.mul_pos (by omega) hpos; omega) ?_, hst⟩
      rw [hsz, Array.toList_map]
      rw [rep_len, hl] at e6
      exact e6
    · exact hK.elim
theorem StX.boxW (h : StX w0 M S0 N S φ F a w) {d T : Nat} {x : Operand} {K : (Nat → AV) → Prop} (hp : aBoxW N F d x K) :
    ∃ v w1 F', K F' ∧ (Instr.box T (a.eval x)).run P w = .ok v w1 ∧ St w0 M S0 N F' (a.put (some d) v) w1 := by
  obtain ⟨F1, ag, cs, V, φ', hK, h', hv, hV, hs, hVt⟩ := h.give hp
  obtain ⟨u, hu, hr⟩ := hv.cells
  have hsz : (a.eval x).cells.size = cs.length := by have := congrArg List.length hu; simpa using this
  have h2 := h'.world (w1 := w.alloc (.cells (a.eval x).cells T)) (keeps_alloc w _) (fun _ _ h => h.elim)
  have hcell : ∀ j, j < cs.length → cel (w.alloc (.cells (a.eval x).cells T)) w.heap.size j = some (u j) := fun j hj => by
    rw [cel_alloc_new, ← Array.getElem?_toList, hu, List.getElem?_map, List.getElem?_range hj]; rfl
  have hVlt : ∀ b o, V b o → b < w.heap.size := fun b o hb => (hV b o hb).2.2.1
  obtain ⟨F2, hK2, hst⟩ := h2.putD_free (X := fun b o => V b o ∨ (b = w.heap.size ∧ o < cs.length)) (k := .box) (cs := cs) (v := .pointer (some ⟨w.heap.size, 0, none⟩)) (F := F1) ⟨fun b o => b = w.heap.size ∧ o < cs.length, V, fun _ _ h => .inr h, fun _ _ h => .inl h, fun b o hb hb' => by have := hVlt b o hb'; omega,
    ⟨_, _, rfl, fun j hj => ⟨⟨rfl, by omega⟩, by rw [Nat.zero_add]; exact ⟨_, hcell j hj⟩, by rw [Nat.zero_add, fro_alloc_new]⟩⟩, (hr.keep (sameOn_old (keeps_alloc w _) fun b o hb => (h'.sup b o hb).1) (sameOn_old (keeps_alloc w _) hVlt)).congr fun j hj => by simp only [topU, Nat.zero_add, hcell j hj, Option.getD_some]⟩ (fun b o hb => by
    rcases hb with hb | hb
    · obtain ⟨a1, a2, a3, a4⟩ := hV b o hb
      exact ⟨a1, a2, by rw [size_alloc]; omega, a4⟩
    · exact ⟨fun t ht => by have := (h'.ex t b o ht).1; omega, fun hS => by have := (h'.sup b o hS).1; omega, by rw [size_alloc]; omega, .inl (by rw [hb.1]; exact h'.old.size)⟩) hK
  exact ⟨_, _, F2, hK2, by simp [Instr.box, newVar, newRow], hst⟩
theorem StX.src (h : StX w0 M S0 N S φ F a w) {y : Operand} {sz : Nat} {K : Bool → (Nat → AV) → List (List C) → Prop} (hp : srcA F y K) :
    ∃ fl F' xr φ', K fl F' xr ∧ StX w0 M S0 N S φ' F' a w ∧ (∀ t b o, φ' t b o → φ t b o) ∧ ((∀ r ∈ xr, r.length = sz) → (fl = true → ∀ r ∈ xr, noOwn r = true) →
      ∃ b c u2 f2 V, a.eval y = .slice b xr.length c ∧ Reads w b (xr.length * sz) ((List.range (xr.length * sz)).map u2) ∧ Els w S V xr sz u2 f2 ∧ Free w0 M S φ' w V ∧ (∀ b o, V b o → ∃ t, φ t b o)) := by
  unfold srcA at hp
  split at hp
  · obtain ⟨F', ag, cs, V, φ', hK, h', hv, hV, hs, hVt⟩ := h.taken hp
    match ag, cs, hK with
    | none, [.s .own rows], hK =>
      refine ⟨false, F', rows, φ', hK, h', hs, fun hk _ => ?_⟩
      rcases hv.rep1.els (by simp) hk with ⟨rfl, a0, e⟩ | ⟨g, cap, u, f, e, hpos, hcap, hcell, hu, hE⟩
      · exact ⟨a0, 0, fun _ => undef, fun _ => NO, NO, e, ⟨by simp, fun _ => by simp, fun ad j u _ hj => by simp at hj⟩, ⟨fun r hr => (by cases hr), fun _ _ _ _ h => h.elim, fun _ _ _ _ _ _ _ h => h.elim, fun i j r c hi => (by simp at hi)⟩, fun _ _ h => h.elim, fun _ _ h => h.elim⟩
      · refine ⟨_, cap, u, f, _, e, ⟨by simp, fun h => (by cases h), fun ad j y had hj => ?_⟩, hE, fun b o hb => hV b o hb.1, fun b o hb => hVt b o hb.1⟩
        cases had
        rw [List.getElem?_map] at hj
        have hjl : j < rows.length * sz := by
          rcases Nat.lt_or_ge j (rows.length * sz) with h | h
          · exact h
          · rw [List.getElem?_eq_none (by simpa using h)] at hj; cases hj
        rw [List.getElem?_range hjl] at hj
        simp only [Option.map_some, Option.some.injEq] at hj
        subst hj
        rw [addr_add, Nat.zero_add]
        exact hu j hjl
  · obtain ⟨ag, cs, Y, hK, hv, -⟩ := h.val (h.ev y) hp
    match ag, cs, hK with
    | none, [.s o rows], hK =>
      refine ⟨true, F, rows, φ, hK, h, fun _ _ _ h => h, fun hk hn => ?_⟩
      obtain ⟨b, c, u, e1, e2, e3⟩ := hv.rep1.flat (fun r hr => ⟨hk r hr, hn rfl r hr⟩)
      exact ⟨b, c, u, _, NO, e1, e2, e3, fun _ _ h => h.elim, fun _ _ h => h.elim⟩
    | none, [.z], hK =>
      obtain ⟨b, hb⟩ := rep_z hv.rep1
      exact ⟨true, F, [], φ, hK, h, fun _ _ _ h => h, fun _ _ => ⟨b, 0, fun _ => undef, fun _ => NO, NO, hb, ⟨by simp, fun _ => by simp, fun ad j u _ hj => by simp at hj⟩, ⟨fun r hr => (by cases hr), fun _ _ _ _ h => h.elim, fun _ _ _ _ _ _ _ h => h.elim, fun i j r c hi => (by simp at hi)⟩, fun _ _ h => h.elim, fun _ _ h => h.elim⟩⟩
theorem StX.base (h : StX w0 M S0 N S φ F a w) {x : Operand} {K : (Nat → AV) → List (List C) → Prop} (hp : baseA F x K) :
    ∃ F' rows φ' V, K F' rows ∧ StX w0 M S0 N S φ' F' a w ∧ (∀ t b o, φ' t b o → φ t b o) ∧ Rep w S V (.s .own rows) (a.eval x) ∧ Free w0 M S φ' w V ∧ (∀ b o, V b o → ∃ t, φ t b o) := by
  obtain ⟨ag, cs, Y, hK, hv, -⟩ := h.val (h.ev x) hp
  match ag, cs, hK with
  | none, [.z], hK =>
    obtain ⟨b, hb⟩ := rep_z hv.rep1
    exact ⟨F, [], φ, NO, hK, h, fun _ _ _ h => h, by rw [hb]; exact .nil _ _ _ trivial, fun _ _ h => h.elim, fun _ _ h => h.elim⟩
  | none, [.s .own _], hK =>
    obtain ⟨F', ag, cs, V, φ', hK, h', hv, hV, hs, hVt⟩ := h.taken hK
    match ag, cs, hK with
    | none, [.s .own rows], hK => exact ⟨F', rows, φ', V, hK, h', hs, hv.rep1, hV, hVt⟩
theorem StX.appW (h : StX w0 M S0 N S φ F a w) (hTE : ∀ t i, TE t = some i → TOk P t i) {d T ty : Nat} {x y : Operand} {K : (Nat → AV) → Prop} (hp : aAppW TE N F d T x y K) :
    ∃ v w1 F', K F' ∧ (Builtin.append_ #[T, T] ty #[a.eval x, a.eval y]).run P w = .ok v w1 ∧ St w0 M S0 N F' (a.put (some d) v) w1 := by
  obtain ⟨e, ie, q, z, hK, he, hu, ht, hl, hpos, hi, hz, hzc, hsz, hby, hzs⟩ := elT_spec hTE hp
  obtain ⟨fl, F1, xr, φ1, hK, s1, hs1, hsrc⟩ := h.src (sz := ie.size) hK
  obtain ⟨F2, rows, φ2, V, hK, s2, hs2, hrep, hV, hVt⟩ := s1.base hK
  obtain ⟨h1, h2, h3, h4, h5, hK⟩ := hK.out
  obtain ⟨b, c, u2, f2, V2, hy, hR, hE, hV2, hVt2⟩ := hsrc h2 h3
  have hz1 : ∀ x ∈ z.cells.toList, x.oneCell' = true := by rw [hzc]; exact zero_one ht.2.1
  rw [← hsz] at hR hE
  obtain ⟨v', w', hrun, hkk, hrep'⟩ := own_append (P := P) (ty := ty) (c := c) hu hi hz hzs hz1 hrep (by rw [hsz]; exact h1) hE hR (fun b o hb hb' => by obtain ⟨t, ht⟩ := hVt b o hb; exact (hV2 b o hb').1 t ht) (fun b o hb => (hV b o hb).2.1) (fun b o hb => (hV b o hb).2.2.1)
    (fun b o hb => (hV2 b o hb).2.2.1) (fun b o hb => (s2.sup b o hb).1) h4 (by rw [hby]; exact h5)
  have s3 := s2.world hkk hV
  obtain ⟨F3, hK3, hst⟩ := s3.putD_free (one_row hrep') (fun b o hb => by
    rcases hb with hb | hb | hb
    · obtain ⟨a1, a2, a3, a4⟩ := hV b o hb
      exact ⟨a1, a2, Nat.lt_of_lt_of_le a3 hkk.size, a4⟩
    · obtain ⟨a1, a2, a3, a4⟩ := (hV2.less hs2) b o hb
      exact ⟨a1, a2, Nat.lt_of_lt_of_le a3 hkk.size, a4⟩
    · exact ⟨fun t ht => by have := (s2.ex t b o ht).1; omega, fun hS => by have := (s2.sup b o hS).1; omega, hb.2, .inl (Nat.le_trans s2.old.size hb.1)⟩) hK
  exact ⟨v', w', F3, hK3, by rw [hy]; exact hrun, hst⟩
end
end Go.Proofs.YthinjmmlpgjhnaaGreat.Ab
