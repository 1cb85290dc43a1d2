/- makeSlice, slice expressions over what nobody writes, field, convert, min and max on abstract frames. No condition. -/
import Derived.Test.YthinjmmlpgjhnaaGreatAbB
import Derived.Laws.Slices
import Derived.Laws.Small
namespace Go.Proofs.YthinjmmlpgjhnaaGreat.Ab
open Go.RowKit

def zrows (z : List C) : Nat → List (List C)
  | 0 => []
  | n + 1 => z :: zrows z n
theorem zrows_eq (z : List C) : ∀ n, zrows z n = List.replicate n z
  | 0 => rfl
  | n + 1 => by rw [zrows, zrows_eq z n]; rfl
/-- The length of a slice to be made. -/
inductive Mk (l c : Int) (by_ : Nat) (z : List C) (K : List (List C) → Prop) : Prop
  | mk_ (h : ∃ n : Nat, l = (n : Nat) ∧ c = (n : Nat) ∧ n ≤ 140737488355328 ∧ n * by_ ≤ 140737488355328 ∧ ∃ rows, rows = List.replicate n z ∧ K rows)
theorem Mk.mk {l c : Int} {by_ : Nat} {z : List C} {K : List (List C) → Prop} {rows : List (List C)} (n : Nat) (h1 : l = (n : Nat)) (h2 : c = (n : Nat)) (h3 : n ≤ 140737488355328) (h4 : n * by_ ≤ 140737488355328) (h5 : rows = List.replicate n z) (hK : K rows) : Mk l c by_ z K := by refine .mk_ ?_; exact ⟨n, h1, h2, h3, h4, rows, h5, hK⟩
theorem Mk.out {l c : Int} {by_ : Nat} {z : List C} {K : List (List C) → Prop} (h : Mk l c by_ z K) : ∃ n : Nat, l = (n : Nat) ∧ c = (n : Nat) ∧ n ≤ 140737488355328 ∧ n * by_ ≤ 140737488355328 ∧ K (List.replicate n z) := by
  obtain ⟨h⟩ := h; obtain ⟨n, h1, h2, h3, h4, rows, rfl, h5⟩ := h; exact ⟨n, h1, h2, h3, h4, h5⟩
def intA (F : Nat → AV) (x : Operand) (K : Int → Prop) : Prop := scA F x fun v => match v with | .int _ n => K n | _ => False
def aMake (TE : Nat → Option TI) (F : Nat → AV) (T : Nat) (x y : Operand) (K : AV → Prop) : Prop :=
  elT TE T fun _ ie => intA F x fun l => intA F y fun c => Mk l c ie.bytes ie.zero fun rows => K (.hold .one [.s .own rows])
/-- A part of a slice. -/
inductive Sl (rows : List (List C)) (sz : Nat) (l h : Option Int) (K : List (List C) → Prop) : Prop
  | mk_ (h : ∃ x y : Nat, (l = none ∧ x = 0 ∨ l = some ((x : Nat) : Int)) ∧ (h = none ∧ y = rows.length ∨ h = some ((y : Nat) : Int)) ∧ x ≤ y ∧ y ≤ rows.length ∧ (∀ r ∈ rows, r.length = sz) ∧ ∃ rows', rows' = (rows.take y).drop x ∧ K rows')
theorem Sl.pre {rows rows' : List (List C)} {sz : Nat} {h : Int} {K : List (List C) → Prop} (y : Nat) (h1 : h = (y : Nat)) (h2 : y ≤ rows.length) (h3 : ∀ r ∈ rows, r.length = sz) (h4 : rows' = rows.take y) (hK : K rows') : Sl rows sz none (some h) K := by
  refine .mk_ ?_; exact ⟨0, y, .inl ⟨rfl, rfl⟩, .inr (by rw [h1]), Nat.zero_le _, h2, h3, rows', by rw [h4]; rfl, hK⟩
theorem Sl.suf {rows rows' : List (List C)} {sz : Nat} {l : Int} {K : List (List C) → Prop} (x : Nat) (h1 : l = (x : Nat)) (h2 : x ≤ rows.length) (h3 : ∀ r ∈ rows, r.length = sz) (h4 : rows' = rows.drop x) (hK : K rows') : Sl rows sz (some l) none K := by
  refine .mk_ ?_; exact ⟨x, rows.length, .inr (by rw [h1]), .inl ⟨rfl, rfl⟩, h2, Nat.le_refl _, h3, rows', by rw [h4, List.take_length], hK⟩
theorem Sl.mid {rows rows' : List (List C)} {sz : Nat} {l h : Int} {K : List (List C) → Prop} (x y : Nat) (h0 : l = (x : Nat)) (h1 : h = (y : Nat)) (h2 : x ≤ y) (h3 : y ≤ rows.length) (h4 : ∀ r ∈ rows, r.length = sz) (h5 : rows' = (rows.take y).drop x) (hK : K rows') : Sl rows sz (some l) (some h) K := by
  refine .mk_ ?_; exact ⟨x, y, .inr (by rw [h0]), .inr (by rw [h1]), h2, h3, h4, rows', h5, hK⟩
theorem Sl.out {rows : List (List C)} {sz : Nat} {l h : Option Int} {K : List (List C) → Prop} (hs : Sl rows sz l h K) : ∃ x y : Nat, (l = none ∧ x = 0 ∨ l = some ((x : Nat) : Int)) ∧ (h = none ∧ y = rows.length ∨ h = some ((y : Nat) : Int)) ∧ x ≤ y ∧ y ≤ rows.length ∧ (∀ r ∈ rows, r.length = sz) ∧ K ((rows.take y).drop x) := by
  obtain ⟨hs⟩ := hs; obtain ⟨x, y, h1, h2, h3, h4, h5, rows', rfl, h6⟩ := hs; exact ⟨x, y, h1, h2, h3, h4, h5, h6⟩
def bndA (F : Nat → AV) (x : Option Operand) (K : Option Int → Prop) : Prop :=
  match x with
  | none => K none
  | some x => intA F x fun n => K (some n)
def aSlice (TE : Nat → Option TI) (F : Nat → AV) (T : Nat) (x : Operand) (lo hi : Option Operand) (K : AV → Prop) : Prop :=
  elT TE T fun _ ie => bndA F lo fun l => bndA F hi fun h => valA F (evA F x) fun ag cs => match ag, cs with
    | none, [.s .imm rows] => Sl rows ie.size l h fun rows' => K (.hold .one [.s .imm rows'])
    | none, [.z] => Sl [] ie.size l h fun _ => K (.hold .one [.z])
    | _, _ => False
def aField (TE : Nat → Option TI) (F : Nat → AV) (T : Nat) (x : Operand) (f : Nat) (K : AV → Prop) : Prop :=
  match TE T with
  | some ⟨_, _, _, .st flds⟩ => (match flds[f]? with
    | some p => (match TE p.2 with
      | some i => valA F (evA F x) fun ag cs => bif ag.isSome && (i.agg || Nat.beq i.size 1) && Nat.ble (p.1 + i.size) cs.length then (bif noOwn (takeA cs p.1 i.size) then fc (takeA cs p.1 i.size) fun cs' => K (.hold (kdOf (agOf i)) cs') else False) else False
      | none => False)
    | none => False)
  | _ => False
def aConv (TE : Nat → Option TI) (F : Nat → AV) (T1 T2 : Nat) (x : Operand) (K : AV → Prop) : Prop :=
  match TE T1, TE T2 with
  | some _, some ⟨_, _, _, .sc (.int k)⟩ => intA F x fun n => Wr k n fun z => K (.hold .one [.v (.int k z)])
  | _, _ => False
def aMM (mx : Bool) (F : Nat → AV) (x y : Operand) (K : AV → Prop) : Prop :=
  scA F x fun v => match v with
    | .int k n => intA F y fun m => Ev (if mx then (if m > n then m else n) else (if m < n then m else n)) fun z => K (.hold .one [.v (.int k z)])
    | _ => False

section
variable {P : Program} {w0 w w1 : World} {M S0 S : CellSet} {N : Lim} {φ : Nat → CellSet} {F : Nat → AV} {a : Act} {TE : Nat → Option TI}

theorem StX.int (h : StX w0 M S0 N S φ F a w) {x : Operand} {K : Int → Prop} (hp : intA F x K) : ∃ k n, a.eval x = .int k n ∧ K n := by
  obtain ⟨hc, -⟩ := h.scalar hp
  cases hv : a.eval x <;> rw [hv] at hc <;> try exact hc.elim
  exact ⟨_, _, rfl, hc⟩
theorem chunk_rep (z : List C) : ∀ n, chunk z.length n (rep z n) = List.replicate n z
  | 0 => rfl
  | n + 1 => by
    simp only [chunk, rep, List.replicate_succ]
    rw [List.take_left, List.drop_left, chunk_rep z n]
theorem StX.make (h : StX w0 M S0 N S φ F a w) (hTE : ∀ t i, TE t = some i → TOk P t i) {T : Nat} {x y : Operand} {K : AV → Prop} (hp : aMake TE F T x y K) :
    ∃ av v w1, K av ∧ (Instr.makeSlice T (a.eval x) (a.eval y)).run P w = .ok v w1 ∧ NewR w S F a av v w1 := by
  obtain ⟨e, ie, q, z, hK, he, hu, ht, hl, hpos, hi, hz, hzc, hsz, hby, hzs⟩ := elT_spec hTE hp
  obtain ⟨k1, l, hx, hK⟩ := h.int hK
  obtain ⟨k2, c, hy, hK⟩ := h.int hK
  obtain ⟨n, rfl, rfl, h1, h2, hK⟩ := hK.out
  have hbn : (q.bytes : Int) * (n : Int) ≤ 281474976710656 := by
    have : ((q.bytes * n : Nat) : Int) ≤ 281474976710656 := by rw [hby, Nat.mul_comm]; omega
    rwa [Int.natCast_mul] at this
  have hrun := run_make (P := P) w T e q z hu hi hz k1 k2 (n : Nat) (n : Nat) (by omega) (Int.le_refl _) hbn (by omega)
  simp only [Int.toNat_natCast] at hrun
  rw [hx, hy]
  refine ⟨_, _, _, hK, hrun, keeps_alloc _ _, fun b _ => w.heap.size ≤ b ∧ b < (w.alloc (.cells (madeCells z.cells (n * q.size)) e)).heap.size, S, fun b o hb => ⟨hb.2, hb.1⟩, fun _ _ h => h, fun _ _ h => .inl h, fun b o hb hS => by have := (h.sup b o hS).1; have := hb.1; omega, one_row ?_⟩
  rcases Nat.eq_zero_or_pos n with h0 | h0
  · subst h0; exact .nil _ _ _ trivial
  · have hcl : (rep ie.zero n).length = n * ie.size := by rw [rep_len, hl]
    have := (new_rows (e := e) (cells := madeCells z.cells (n * q.size)) (zeros_row (w := w) ht.2.1 S n) hcl h0 (by
      have := zeros_cells hzc (by omega) (n * q.size)
      rw [hcl, ← hsz]; exact this) (fun b o hb => (h.sup b o hb).1) (fun _ _ h => h.elim)).mono (F' := fun b o => w.heap.size ≤ b ∧ b < (w.alloc (.cells (madeCells z.cells (n * q.size)) e)).heap.size) (fun _ _ h => h) (fun b o hb => hb.elim (fun h => h.elim) id)
    rw [← hl, chunk_rep] at this
    exact this
theorem bnd_spec (h : StX w0 M S0 N S φ F a w) {x : Option Operand} {K : Option Int → Prop} (hp : bndA F x K) : (x = none ∧ K none) ∨ ∃ y k n, x = some y ∧ a.eval y = .int k n ∧ K (some n) := by
  cases x with
  | none => exact .inl ⟨rfl, hp⟩
  | some y => obtain ⟨k, n, h1, h2⟩ := h.int hp; exact .inr ⟨y, k, n, rfl, h1, h2⟩
theorem slice_run {T e sz len cap x y : Nat} {ad : Option Addr} {lo hi : Option Operand} {l r : Option Int} (hu : P.underlying T = some (.slice e)) (hs : (P.info? e).map (·.size) = some sz) (hlo : (lo = none ∧ l = none) ∨ ∃ o k n, lo = some o ∧ a.eval o = .int k n ∧ l = some n)
    (hhi : (hi = none ∧ r = none) ∨ ∃ o k n, hi = some o ∧ a.eval o = .int k n ∧ r = some n) (hx : l = none ∧ x = 0 ∨ l = some ((x : Nat) : Int)) (hy : r = none ∧ y = len ∨ r = some ((y : Nat) : Int)) (hxy : x ≤ y) (hyl : y ≤ len) (hlc : len ≤ cap) :
    (Instr.sliceAt T (.slice ad len cap) (lo.map a.eval) (hi.map a.eval) none).run P w = .ok (sliced ad x y cap sz) w := by
  have hel : P.elem T = e := by simp [Program.elem, hu]
  have hu' : P.underlying T = some (.slice (P.elem T)) := by rw [hel]; exact hu
  have hso : (sizeOf (P.elem T)).run P w = .ok sz w := by rw [hel]; exact run_size hs
  rw [run_sliceAt_slice w T _ _ _ _ hu']
  rcases hlo with ⟨rfl, rfl⟩ | ⟨o1, k1, n1, rfl, h1, rfl⟩
  · have hx0 : x = 0 := by rcases hx with ⟨-, h⟩ | h; exact h; cases h
    subst hx0
    rcases hhi with ⟨rfl, rfl⟩ | ⟨o2, k2, n2, rfl, h2, rfl⟩
    · have : y = len := by rcases hy with ⟨-, h⟩ | h; exact h; cases h
      subst this
      have := run_slice_all (P := P) w T ad y cap hu'
      simp only [Option.map_none]
      rw [this, hso]; rfl
    · have : n2 = (y : Nat) := by rcases hy with ⟨h, -⟩ | h; cases h; exact Option.some.inj h
      subst this
      have := run_slice_h (P := P) w T ad len cap hu' k2 (y : Nat) (by omega) (by omega)
      simp only [Option.map_none, Option.map_some, h2]
      rw [this, hso]; rfl
  · have : n1 = (x : Nat) := by rcases hx with ⟨h, -⟩ | h; cases h; exact Option.some.inj h
    subst this
    rcases hhi with ⟨rfl, rfl⟩ | ⟨o2, k2, n2, rfl, h2, rfl⟩
    · have : y = len := by rcases hy with ⟨-, h⟩ | h; exact h; cases h
      subst this
      have := run_slice_l (P := P) w T ad y cap hu' k1 (x : Nat) (by omega) (by omega)
      simp only [Option.map_none, Option.map_some, h1]
      rw [this, hso]; rfl
    · have : n2 = (y : Nat) := by rcases hy with ⟨h, -⟩ | h; cases h; exact Option.some.inj h
      subst this
      have := run_slice_lh (P := P) w T ad len cap hu' k1 k2 (x : Nat) (y : Nat) (by omega) (by omega) (by omega)
      simp only [Option.map_some, h1, h2]
      rw [this, hso]; rfl
theorem StX.slice (h : StX w0 M S0 N S φ F a w) (hTE : ∀ t i, TE t = some i → TOk P t i) {T : Nat} {x : Operand} {lo hi : Option Operand} {K : AV → Prop} (hp : aSlice TE F T x lo hi K) :
    ∃ av v, K av ∧ (Instr.sliceAt T (a.eval x) (lo.map a.eval) (hi.map a.eval) none).run P w = .ok v w ∧ SlotV w S F (tvs a) NO av v := by
  obtain ⟨e, ie, q, z, hK, he, hu, ht, hl, hpos, hi', hz, hzc, hsz, hby, hzs⟩ := elT_spec hTE hp
  have key : ∀ l r, (valA F (evA F x) fun ag cs => match ag, cs with
      | none, [.s .imm rows] => Sl rows ie.size l r fun rows' => K (.hold .one [.s .imm rows'])
      | none, [.z] => Sl [] ie.size l r fun _ => K (.hold .one [.z])
      | _, _ => False) → ((lo = none ∧ l = none) ∨ ∃ o k n, lo = some o ∧ a.eval o = .int k n ∧ l = some n) → ((hi = none ∧ r = none) ∨ ∃ o k n, hi = some o ∧ a.eval o = .int k n ∧ r = some n) →
      ∃ av v, K av ∧ (Instr.sliceAt T (a.eval x) (lo.map a.eval) (hi.map a.eval) none).run P w = .ok v w ∧ SlotV w S F (tvs a) NO av v := by
    intro l r hK hlo hhi
    obtain ⟨ag, cs, Y, hK, hv, -⟩ := h.val (h.ev x) hK
    match ag, cs, hK with
    | none, [.s .imm rows], hK =>
      obtain ⟨m, n, h1, h2, h3, h4, h5, hK⟩ := hK.out
      have hr := hv.rep1
      generalize hcc : C.s .imm rows = c0 at hr
      generalize a.eval x = vx at hr
      cases hr with
      | v => cases hcc
      | x => cases hcc
      | z => cases hcc
      | m => cases hcc
      | own F o' g k n cap rows' u f ho => cases hcc; exact ho.elim
      | nil F o' ad ho =>
        cases hcc
        have hn0 : n = 0 := by simp at h4; omega
        subst hn0
        have hm0 : m = 0 := by omega
        subst hm0
        have := slice_run (w := w) (a := a) (P := P) (ad := ad) (cap := 0) (len := 0) hu ht.size hlo hhi h1 (by simpa using h2) h3 (Nat.le_refl 0) (Nat.le_refl 0)
        exact ⟨_, _, hK, this, one_row (.nil _ .imm _ trivial)⟩
      | imm F g off k n' cap rows' u hn hkk hcap hS hc =>
        cases hcc
        subst hn
        have := slice_run (w := w) (a := a) (P := P) (ad := some ⟨g, off, none⟩) (cap := cap) (len := rows.length) hu ht.size hlo hhi h1 h2 h3 h4 hcap
        refine ⟨_, _, hK, this, one_row ?_⟩
        unfold sliced
        by_cases he : cap = m
        · rw [if_pos he]
          have hnm : n = m := by omega
          subst hnm
          rw [show cap - n = 0 by omega, Nat.sub_self]
          rw [show (rows.take n).drop n = [] by simp]
          exact .nil _ _ _ trivial
        · rw [if_neg he]
          simp only [Option.map_some, addr_add]
          have hlen : ((rows.take n).drop m).length = n - m := by simp; omega
          have hget : ∀ (i : Nat) (r : List C), ((rows.take n).drop m)[i]? = some r → rows[m + i]? = some r := fun i r hi => by
            rw [List.getElem?_drop, List.getElem?_take] at hi
            split at hi
            · exact hi
            · cases hi
          have hks : rows ≠ [] → k = ie.size := fun hne => by
            obtain ⟨r, hr⟩ := List.exists_mem_of_ne_nil _ hne
            rw [← hkk r hr, h5 r hr]
          refine .imm _ g (off + m * ie.size) ie.size (n - m) (cap - m) _ (fun q => u (m * ie.size + q)) hlen (fun r hr => ?_) (by omega) (fun q hq => ?_) (fun i j r c hi hj => ?_)
          · obtain ⟨i, hi⟩ := List.getElem?_of_mem hr
            exact h5 r (List.mem_of_getElem? (hget i r hi))
          · have hne : rows ≠ [] := fun e => by subst e; simp at h4; subst h4; simp at hq
            have hk2 := hks hne
            subst hk2
            rw [Nat.add_assoc]
            refine hS _ ?_
            have : (n - m) * ie.size + m * ie.size ≤ rows.length * ie.size := by rw [← Nat.add_mul]; exact Nat.mul_le_mul_right ie.size (by omega)
            omega
          · have hi' := hget i r hi
            have hne : rows ≠ [] := fun e => by subst e; simp at hi'
            have hk2 := hks hne
            subst hk2
            have := hc _ j r c hi' hj
            rw [Nat.add_mul, Nat.add_assoc] at this
            exact this
    | none, [.z], hK =>
      obtain ⟨m, n, h1, h2, h3, h4, h5, hK⟩ := hK.out
      obtain ⟨b, hb⟩ := rep_z hv.rep1
      have hn0 : n = 0 := by simp at h4; omega
      subst hn0
      have hm0 : m = 0 := by omega
      subst hm0
      have := slice_run (w := w) (a := a) (P := P) (ad := b) (cap := 0) (len := 0) hu ht.size hlo hhi h1 (by simpa using h2) h3 (Nat.le_refl 0) (Nat.le_refl 0)
      rw [hb]
      exact ⟨_, _, hK, this, one_row (.z _ _)⟩
  rcases bnd_spec h hK with ⟨e1, hK⟩ | ⟨o1, k1, n1, e1, e2, hK⟩
  · rcases bnd_spec h hK with ⟨e3, hK⟩ | ⟨o2, k2, n2, e3, e4, hK⟩
    · exact key _ _ hK (.inl ⟨e1, rfl⟩) (.inl ⟨e3, rfl⟩)
    · exact key _ _ hK (.inl ⟨e1, rfl⟩) (.inr ⟨_, _, _, e3, e4, rfl⟩)
  · rcases bnd_spec h hK with ⟨e3, hK⟩ | ⟨o2, k2, n2, e3, e4, hK⟩
    · exact key _ _ hK (.inr ⟨_, _, _, e1, e2, rfl⟩) (.inl ⟨e3, rfl⟩)
    · exact key _ _ hK (.inr ⟨_, _, _, e1, e2, rfl⟩) (.inr ⟨_, _, _, e3, e4, rfl⟩)
theorem part_run {T : Nat} {i : TI} (ht : TOk P T i) (ha : (i.agg || Nat.beq i.size 1) = true) {cells : Array Value} {off : Nat} {u : Nat → Value} (hc : ∀ d, d < i.size → cells[off + d]? = some (u d)) :
    (part T cells off).run P w = .ok (mkv (agOf i) u) w := by
  have hA := ht.isAgg (w := w)
  unfold part agOf
  cases hagg : i.agg with
  | true =>
    rw [hagg] at hA
    have he : cells.extract off (off + i.size) = ((List.range i.size).map u).toArray := by
      apply Array.ext'
      apply List.ext_getElem?
      intro j
      by_cases hj : j < i.size
      · simp [hj, hc j hj]
      · simp [hj]; omega
    simp [hA, run_size ht.size, mkv, he]
  | false =>
    rw [hagg] at hA ha
    have h1 : i.size = 1 := by simpa using ha
    have := hc 0 (by omega)
    simp only [Nat.add_zero] at this
    simp [hA, this, mkv]
theorem StX.field (h : StX w0 M S0 N S φ F a w) (hTE : ∀ t i, TE t = some i → TOk P t i) {T f : Nat} {x : Operand} {K : AV → Prop} (hp : aField TE F T x f K) :
    ∃ av v, K av ∧ (Instr.field T (a.eval x) f).run P w = .ok v w ∧ SlotV w S F (tvs a) NO av v := by
  unfold aField at hp
  split at hp
  case h_2 => exact hp.elim
  rename_i flds hT
  split at hp
  case h_2 => exact hp.elim
  rename_i p hfl
  split at hp
  case h_2 => exact hp.elim
  rename_i i hi
  obtain ⟨ag, cs, Y, hK, hv, -⟩ := h.val (h.ev x) hp
  cases hb : (ag.isSome && (i.agg || Nat.beq i.size 1) && Nat.ble (p.1 + i.size) cs.length) with
  | false => rw [hb] at hK; exact hK.elim
  | true =>
    rw [hb] at hK
    simp only [cond_true] at hK
    simp only [Bool.and_eq_true] at hb
    obtain ⟨⟨hb1, hb2⟩, hb3⟩ := hb
    have hle := Nat.le_of_ble_eq_true hb3
    cases hn : noOwn (takeA cs p.1 i.size) with
    | false => rw [hn] at hK; exact hK.elim
    | true =>
      rw [hn] at hK
      simp only [cond_true, fc_eq] at hK
      obtain ⟨fs, hu, hfs⟩ := (hTE _ _ hT).2.2
      have hti := hTE _ _ hi
      cases ag with
      | none => cases hb1
      | some m =>
        obtain ⟨hl, u, hvx, hr⟩ := hv
        simp only [Option.getD_some] at hl
        subst hl
        have hval : ValOk w S Y (agOf i) (takeA cs p.1 i.size) (mkv (agOf i) fun d => u (p.1 + d)) := ⟨by rw [agOf_len hb2]; simp [takeA]; omega, _, rfl, hr.part p.1 _⟩
        refine ⟨_, _, hK, ?_, (hval.bare hn).slot⟩
        obtain ⟨fd, hget, hfd⟩ : ∃ fd, fs[f]? = some fd ∧ (fd.offset, fd.type) = p := by
          rw [← hfs, List.getElem?_map, Array.getElem?_toList] at hfl
          cases hf : fs[f]? with
          | none => rw [hf] at hfl; cases hfl
          | some fd => rw [hf] at hfl; simp only [Option.map_some, Option.some.injEq] at hfl; exact ⟨fd, rfl, hfl⟩
        subst hfd
        rw [hvx]
        simp only [Instr.field, Sem.run_bind, run_underlying hu, Result.andThen_ok, hget, mkv, asAgg, Sem.run_pure]
        exact part_run hti hb2 (fun d hd => by simp [show fd.offset + d < cs.length by simp at hle; omega])
theorem StX.conv (h : StX w0 M S0 N S φ F a w) (hTE : ∀ t i, TE t = some i → TOk P t i) {T1 T2 : Nat} {x : Operand} {K : AV → Prop} (hp : aConv TE F T1 T2 x K) :
    ∃ v, K (.hold .one [.v v]) ∧ v.oneCell' = true ∧ (Go.convert T1 T2 (a.eval x)).run P w = .ok v w := by
  unfold aConv at hp
  split at hp
  · rename_i i1 _ _ _ k h1 h2
    obtain ⟨k1, n, hx, hK⟩ := h.int hp
    obtain ⟨z, rfl, hK⟩ := hK.out
    have hu2 := (hTE _ _ h2).2.2.1
    obtain ⟨d, hu1⟩ : ∃ d, P.underlying T1 = some d := by
      have := (hTE _ _ h1).2.2
      cases hk : i1.kind with
      | st flds => rw [hk] at this; obtain ⟨fs, hu, -⟩ := this; exact ⟨_, hu⟩
      | sl e => rw [hk] at this; exact ⟨_, this⟩
      | sc d => rw [hk] at this; exact ⟨_, this.1⟩
      | mp k e z => rw [hk] at this; exact ⟨_, this.1⟩
    refine ⟨_, hK, rfl, ?_⟩
    rw [hx]
    simp [Go.convert, run_underlying hu1, run_underlying hu2, Conv.intToInt]
  · exact hp.elim
theorem StX.mm (h : StX w0 M S0 N S φ F a w) {mx : Bool} {x y : Operand} {ts : Array TypeId} {ty : Nat} {K : AV → Prop} (hp : aMM mx F x y K) :
    ∃ v, K (.hold .one [.v v]) ∧ v.oneCell' = true ∧ (if mx then (Builtin.max_ ts ty #[a.eval x, a.eval y]) else (Builtin.min_ ts ty #[a.eval x, a.eval y])).run P w = .ok v w := by
  obtain ⟨hc, -⟩ := h.scalar hp
  cases hv : a.eval x <;> rw [hv] at hc <;> try exact hc.elim
  obtain ⟨k, m, hy, hK⟩ := h.int hc
  obtain ⟨z, rfl, hK⟩ := hK.out
  rw [hy]
  cases mx with
  | true => exact ⟨_, hK, rfl, by simp [run_max_int2]⟩
  | false => exact ⟨_, hK, rfl, by simp [run_min_int2]⟩
end
end Go.Proofs.YthinjmmlpgjhnaaGreat.Ab
