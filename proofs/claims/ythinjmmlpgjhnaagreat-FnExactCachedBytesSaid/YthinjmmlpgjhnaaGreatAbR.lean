/- More operations that write only their own slot: addresses, numbers, new memory, calls. No condition. -/
import Derived.Test.YthinjmmlpgjhnaaGreatAbQ
namespace Go.Proofs.YthinjmmlpgjhnaaGreat.Ab
open Go.RowKit

/- places inside a struct -/
def addLast : Steps → Nat → Steps
  | [], _ => []
  | [(i, k, j)], o => [(i, k, j + o)]
  | s :: s2 :: st, o => s :: addLast (s2 :: st) o
def stOff (off : Nat) : Steps → Nat → Nat
  | [], o => off + o
  | _ :: _, _ => off
theorem rowAt_add : ∀ (st : Steps) {cs : List C} {off : Nat} {r : List C} {j : Nat} (o : Nat), rowAt cs off st = some (r, j) → rowAt cs (stOff off st o) (addLast st o) = some (r, j + o)
  | [], cs, off, r, j, o, h => by
    simp only [rowAt, Option.some.injEq, Prod.mk.injEq] at h
    obtain ⟨rfl, rfl⟩ := h
    rfl
  | [(i, k, j0)], cs, off, r, j, o, h => by
    simp only [rowAt] at h
    simp only [stOff, addLast, rowAt]
    split at h
    · rename_i o' rows hc
      split at h
      · rename_i r' hi
        split at h
        · simp only [Option.some.injEq, Prod.mk.injEq] at h
          obtain ⟨rfl, rfl⟩ := h
          rename_i hk
          rw [if_pos hk]
        · cases h
      · cases h
    · cases h
  | s :: s2 :: st, cs, off, r, j, o, h => by
    obtain ⟨i, k, j0⟩ := s
    rw [rowAt] at h
    simp only [stOff, addLast]
    rw [rowAt]
    split at h
    · split at h
      · split at h
        · rename_i hk
          rw [if_pos hk]
          have := rowAt_add (s2 :: st) o h
          simpa [stOff] using this
        · cases h
      · cases h
    · cases h
theorem plc_add {w : World} : ∀ (st : Steps) {u : Nat → Value} {top : Option (Nat × Nat)} {off g x : Nat} (o : Nat), plc w u top off st = some (g, x) → plc w u top (stOff off st o) (addLast st o) = some (g, x + o)
  | [], u, top, off, g, x, o, h => by
    cases top with
    | none => cases h
    | some p =>
      simp only [plc, Option.map_some, Option.some.injEq, Prod.mk.injEq] at h
      obtain ⟨rfl, rfl⟩ := h
      simp only [plc, stOff, addLast, Option.map_some, Nat.add_assoc]
  | [(i, k, j0)], u, top, off, g, x, o, h => by
    simp only [plc] at h
    simp only [stOff, addLast, plc]
    split at h
    · simp only [Option.map_some, Option.some.injEq, Prod.mk.injEq] at h
      obtain ⟨rfl, rfl⟩ := h
      simp only [Option.map_some, Nat.add_assoc]
    · cases h
  | s :: s2 :: st, u, top, off, g, x, o, h => by
    obtain ⟨i, k, j0⟩ := s
    rw [plc] at h
    simp only [stOff, addLast]
    rw [plc]
    split at h
    · have := plc_add (s2 :: st) o h
      simpa [stOff] using this
    · cases h
def ptrAdd (F : Nat → AV) (x : Operand) (o : Nat) (K : AV → Prop) : Prop :=
  match x with
  | .tmp t => match F t with
    | .hold .box _ => K (.ref t o [])
    | .ref t off st => K (.ref t (stOff off st o) (addLast st o))
    | .iref r off => K (.iref r (off + o))
    | _ => False
  | _ => False
def aFieldAddr (TE : Nat → Option TI) (F : Nat → AV) (T : Nat) (x : Operand) (f : Nat) (K : AV → Prop) : Prop :=
  match TE T with
  | some ⟨_, _, _, .st flds⟩ => match flds[f]? with
    | some (o, ft) => match TE ft with
      | some fi => bif Nat.beq fi.size 0 then False else ptrAdd F x o K
      | none => False
    | none => False
  | _ => False

/- element i of a slice -/
def snocSt (st : Steps) (s : Nat × Nat × Nat) : Steps := st ++ [s]
theorem rowAt_snoc : ∀ (st : Steps) {cs : List C} {off : Nat} {r : List C} {j i k : Nat} {o : Own} {rows : List (List C)} {r' : List C}, rowAt cs off st = some (r, j) → r[j]? = some (.s o rows) → rows[i]? = some r' → r'.length = k →
    rowAt cs off (snocSt st (i, k, 0)) = some (r', 0)
  | [], cs, off, r, j, i, k, o, rows, r', h, h1, h2, h3 => by
    simp only [rowAt, Option.some.injEq, Prod.mk.injEq] at h
    obtain ⟨rfl, rfl⟩ := h
    simp only [snocSt, List.nil_append, rowAt, h1, h2, h3, if_true]
  | (i0, k0, j0) :: st, cs, off, r, j, i, k, o, rows, r', h, h1, h2, h3 => by
    simp only [rowAt] at h
    simp only [snocSt, List.cons_append, rowAt]
    split at h
    · split at h
      · split at h
        · rename_i hk
          rw [if_pos hk]
          exact rowAt_snoc st h h1 h2 h3
        · cases h
      · cases h
    · cases h
theorem plc_snoc {w : World} : ∀ (st : Steps) {u : Nat → Value} {top : Option (Nat × Nat)} {off i k g b n cap : Nat}, cellv w u off st 0 = .slice (some ⟨g, b, none⟩) n cap → plc w u top off (snocSt st (i, k, 0)) = some (g, b + i * k)
  | [], u, top, off, i, k, g, b, n, cap, h => by
    simp only [cellv, Nat.add_zero] at h
    simp only [snocSt, List.nil_append, plc, h, Option.map_some, Nat.add_zero]
  | (i0, k0, j0) :: st, u, top, off, i, k, g, b, n, cap, h => by
    simp only [cellv] at h
    simp only [snocSt, List.cons_append, plc]
    split at h
    · exact plc_snoc st h
    · cases h
/-- Scalars. -/
def scA (F : Nat → AV) (x : Operand) (K : Value → Prop) : Prop := valA F (evA F x) fun ag cs => match ag, cs with | none, [.v z] => K z | _, _ => False
def idxA (size : Nat) (t off : Nat) (st : Steps) (c : C) (i : Int) (K : AV → Prop) : Prop :=
  match c with
  | .s o rows => Ix rows i fun r => bif Nat.beq r.length size then (bif o.mine then K (.ref t off (snocSt st (i.toNat, size, 0))) else K (.iref r 0)) else False
  | _ => False
def sliceIx (F : Nat → AV) (size : Nat) (x : Operand) (i : Int) (K : AV → Prop) : Prop :=
  match x with
  | .tmp t => match F t with
    | .hold .one [c] => idxA size t 0 [] c i K
    | .bor t off st none => rowA F t off st fun r j => match r[j]? with | some c => idxA size t off st c i K | none => False
    | _ => False
  | _ => False
def aIndexAddr (TE : Nat → Option TI) (F : Nat → AV) (T : Nat) (x y : Operand) (K : AV → Prop) : Prop :=
  match TE T with
  | some ⟨_, _, _, .sl e⟩ => match TE e with
    | some ei => scA F y fun v => match v with
      | .int _ i => sliceIx F ei.size x i K
      | _ => False
    | none => False
  | _ => False

section
variable {P : Program} {w0 w w1 : World} {M S0 S : CellSet} {N : Lim} {φ : Nat → CellSet} {F : Nat → AV} {a : Act}

theorem StX.scalar (h : StX w0 M S0 N S φ F a w) {x : Operand} {K : Value → Prop} (hp : scA F x K) : K (a.eval x) ∧ (a.eval x).oneCell' = true := by
  obtain ⟨ag, cs, Y, hK, ⟨hl, u, hv, f, h1, -⟩, -⟩ := h.val (h.ev x) hp
  match ag, cs, hK with
  | none, [.v z], hK =>
    have hr := h1 0 _ rfl
    have e : u 0 = z ∧ z.oneCell' = true := by
      generalize u 0 = y at hr
      cases hr
      exact ⟨rfl, by assumption⟩
    have : a.eval x = z := by rw [hv]; exact e.1
    rw [this]
    exact ⟨hK, e.2⟩

theorem StX.fieldAddr (h : StX w0 M S0 N S φ F a w) {TE : Nat → Option TI} (hTE : ∀ t i, TE t = some i → TOk P t i) {T : Nat} {x : Operand} {f : Nat} {K : AV → Prop} (hp : aFieldAddr TE F T x f K) :
    ∃ av v, K av ∧ (Instr.fieldAt T (a.eval x) f).run P w = .ok v w ∧ SlotV w S F (tvs a) NO av v := by
  unfold aFieldAddr at hp
  split at hp
  case h_2 => exact hp.elim
  rename_i sz by_ z flds hT
  split at hp
  case h_2 => exact hp.elim
  rename_i o ft hf
  split at hp
  case h_2 => exact hp.elim
  rename_i fi hfi
  cases h0 : Nat.beq fi.size 0 with
  | true => rw [h0] at hp; exact hp.elim
  | false =>
    rw [h0] at hp
    simp only [cond_false] at hp
    unfold ptrAdd at hp
    obtain ⟨fs, hu, hfs⟩ := (hTE _ _ hT).2.2
    have hfd : ∃ fd, fs[f]? = some fd ∧ fd.offset = o ∧ fd.type = ft := by
      have : (fs.toList.map (fun f => (f.offset, f.type)))[f]? = some (o, ft) := by rw [hfs]; exact hf
      rw [List.getElem?_map, Array.getElem?_toList] at this
      cases hx : fs[f]? with
      | none => rw [hx] at this; cases this
      | some fd => rw [hx] at this; simp only [Option.map_some, Option.some.injEq, Prod.mk.injEq] at this; exact ⟨fd, rfl, this⟩
    obtain ⟨fd, hfd, rfl, rfl⟩ := hfd
    have hne : fi.size ≠ 0 := fun e => by rw [e] at h0; cases h0
    have hsz := run_size (w := w) (hTE _ _ hfi).size
    have run : ∀ g b, (Instr.fieldAt T (.pointer (some ⟨g, b, none⟩)) f).run P w = .ok (.pointer (some ⟨g, b + fd.offset, none⟩)) w := fun g b => by
      simp [Instr.fieldAt, run_underlying hu, hfd, Instr.sureAddr, fieldPlace, hsz, hne, addr_add]
    cases x with
    | tmp t =>
      have hs := h.slot t
      show ∃ av v, K av ∧ (Instr.fieldAt T (tvs a t) f).run P w = .ok v w ∧ _
      simp only at hp
      cases hF : F t with
      | hold k cs =>
        rw [hF] at hp hs
        cases k with
        | box =>
          obtain ⟨X1, Y, h1, h2, h3, ⟨g, b, hv, -⟩, h5⟩ := hs
          exact ⟨_, _, hp, by rw [hv]; exact run g b, .box, cs, cs, fd.offset, g, b + fd.offset, hF, rfl, by rw [hv]; rfl, rfl⟩
        | _ => exact hp.elim
      | ref t' off st =>
        rw [hF] at hp hs
        obtain ⟨k, cs, r, j, g, b, h1, h2, h3, h4⟩ := hs
        exact ⟨_, _, hp, by rw [h4]; exact run g b, k, cs, r, j + fd.offset, g, b + fd.offset, h1, rowAt_add st _ h2, plc_add st _ h3, rfl⟩
      | iref r off =>
        rw [hF] at hp hs
        obtain ⟨g, b, u, h1, h2, h3⟩ := hs
        exact ⟨_, _, hp, by rw [h1]; exact run g (b + off), g, b, u, by rw [Nat.add_assoc], h2, h3⟩
      | dead => rw [hF] at hp; exact hp.elim
      | bor => rw [hF] at hp; exact hp.elim
      | fn => rw [hF] at hp; exact hp.elim
    | _ => exact hp.elim

theorem Rep.rowImm {w : World} {S F : CellSet} {rows : List (List C)} {v : Value} (h : Rep w S F (.s .imm rows) v) {i : Nat} {r : List C} (hi : rows[i]? = some r) :
    ∃ g b n cap u, v = .slice (some ⟨g, b, none⟩) n cap ∧ i < n ∧ (∀ d, d < r.length → S g (b + i * r.length + d) ∧ cel w g (b + i * r.length + d) = some (u d)) ∧ Row w S NO r u := by
  generalize hc : C.s .imm rows = c at h
  induction h with
  | v => cases hc
  | x => cases hc
  | z => cases hc
  | m => cases hc
  | nil F o a ho => cases hc; simp at hi
  | own F o g k n cap rows u f ho => cases hc; exact ho.elim
  | imm F g off k n cap rows' u hn hk hcap hS hcc _ =>
    cases hc
    have hr : r.length = k := hk r (List.mem_of_getElem? hi)
    have hin : i < n := by have := (List.getElem?_eq_some_iff.1 hi).1; omega
    refine ⟨g, off, n, cap, fun d => u (i * k + d), rfl, hin, fun d hd => ?_, fun _ => NO, fun j c hj => hcc i j r c hi hj, fun _ _ _ _ h => h, fun _ _ _ _ _ _ _ h => h.elim⟩
    have := hS (i * k + d) (flat_lt hin (by omega))
    rw [hr, Nat.add_assoc]
    exact this
theorem indexAt_run {T e sz g b n cap : Nat} {i : Int} {k : IntKind} (hu : P.underlying T = some (.slice e)) (hs : (P.info? e).map (·.size) = some sz) (h0 : 0 ≤ i) (hn : i.toNat < n) :
    (Instr.indexAt T (.slice (some ⟨g, b, none⟩) n cap) (.int k i)).run P w = .ok (.pointer (some ⟨g, b + i.toNat * sz, none⟩)) w := by
  have hin : i < n := by omega
  simp [Instr.indexAt, run_underlying hu, asIntOf, h0, hin, run_size hs, addr_add]
theorem StX.indexAddr (h : StX w0 M S0 N S φ F a w) {TE : Nat → Option TI} (hTE : ∀ t i, TE t = some i → TOk P t i) {T : Nat} {x y : Operand} {K : AV → Prop} (hp : aIndexAddr TE F T x y K) :
    ∃ av v, K av ∧ (Instr.indexAt T (a.eval x) (a.eval y)).run P w = .ok v w ∧ SlotV w S F (tvs a) NO av v := by
  unfold aIndexAddr at hp
  split at hp
  case h_2 => exact hp.elim
  rename_i sz by_ z e hT
  split at hp
  case h_2 => exact hp.elim
  rename_i ei hei
  obtain ⟨hy, -⟩ := h.scalar hp
  generalize a.eval y = vy at hy
  have hu : P.underlying T = some (.slice e) := (hTE _ _ hT).2.2
  have hsz := (hTE _ _ hei).size
  cases vy with
  | int k i =>
    -- a slice c at a place
    have go : ∀ (t off : Nat) (st : Steps) (k0 : Kd) (cs r : List C) (j : Nat) (c : C) (v : Value) (Y : CellSet), F t = .hold k0 cs → rowAt cs off st = some (r, j) → r[j]? = some c → v = cellv w (topU w k0 (tvs a t)) off st 0 → Rep w S Y c v → idxA ei.size t off st c i K →
        ∃ av v', K av ∧ (Instr.indexAt T v (.int k i)).run P w = .ok v' w ∧ SlotV w S F (tvs a) NO av v' := by
      intro t off st k0 cs r j c v Y hF hr hj hv hrep hix
      cases c with
      | s o rows =>
        obtain ⟨h0, r', hr', hK⟩ := Ix.out hix
        cases hl : Nat.beq r'.length ei.size with
        | false => rw [hl] at hK; exact hK.elim
        | true =>
          rw [hl] at hK
          simp only [cond_true] at hK
          have hl' := Nat.eq_of_beq_eq_true hl
          cases hm : o.mine with
          | true =>
            rw [hm] at hK
            obtain ⟨g, b, n, cap, hv', hin, -⟩ := hrep.row hr'
            refine ⟨_, _, hK, by rw [hv']; exact indexAt_run hu hsz h0 hin, k0, cs, r', 0, g, b + i.toNat * ei.size, hF, rowAt_snoc st hr hj hr' hl', plc_snoc st (by rw [← hv, hv']), rfl⟩
          | false =>
            rw [hm] at hK
            have : o = .imm := by cases o with | imm => rfl | own => cases hm | tag v => cases hm
            subst this
            obtain ⟨g, b, n, cap, u, hv', hin, hcell, hrow⟩ := hrep.rowImm hr'
            refine ⟨_, _, hK, by rw [hv']; exact indexAt_run hu hsz h0 hin, g, b + i.toNat * ei.size, u, rfl, fun d hd => ?_, hrow⟩
            rw [← hl']; exact hcell d hd
      | _ => exact hix.elim
    simp only at hy
    unfold sliceIx at hy
    cases x with
    | tmp t =>
      have hs := h.slot t
      show ∃ av v, K av ∧ (Instr.indexAt T (tvs a t) (.int k i)).run P w = .ok v w ∧ _
      simp only at hy
      cases hF : F t with
      | hold k0 cs =>
        rw [hF] at hy hs
        cases k0 with
        | one =>
          match cs, hy, hs, hF with
          | [c], hy, hs, hF =>
            obtain ⟨X1, Y, h1, h2, h3, h4, f, h5, -⟩ := hs
            exact go t 0 [] .one [c] [c] 0 c (tvs a t) _ hF rfl rfl rfl (h5 0 c rfl) hy
        | _ => exact hy.elim
      | bor t' off st ag =>
        rw [hF] at hy hs
        cases ag with
        | none =>
          replace hy : rowA F t' off st fun r j => match r[j]? with | some c => idxA ei.size t' off st c i K | none => False := hy
          obtain ⟨k0, cs, r, j, hF', hr, hy⟩ := rowA_spec hy
          obtain ⟨k1, cs1, r1, j1, hF1, hr1, hlen, hv⟩ := hs
          rw [hF'] at hF1
          simp only [AV.hold.injEq] at hF1
          obtain ⟨rfl, rfl⟩ := hF1
          rw [hr] at hr1
          simp only [Option.some.injEq, Prod.mk.injEq] at hr1
          obtain ⟨rfl, rfl⟩ := hr1
          obtain ⟨Y, u, hY, ⟨f, hf, -⟩, hcv, -⟩ := h.place hF' hr
          cases hc : r[j]? with
          | none => rw [hc] at hy; exact hy.elim
          | some c =>
            rw [hc] at hy
            refine go t' off st k0 cs r j c _ (f j) hF' hr hc hv ?_ hy
            rw [hv]
            show Rep w S (f j) c (cellv w _ off st 0)
            rw [hcv 0, Nat.add_zero]
            exact hf j c hc
        | some n => exact hy.elim
      | dead => rw [hF] at hy; exact hy.elim
      | ref => rw [hF] at hy; exact hy.elim
      | iref => rw [hF] at hy; exact hy.elim
      | fn => rw [hF] at hy; exact hy.elim
    | _ => exact hy.elim
  | _ => exact hy.elim

/- numbers -/
def sameK : IntKind → IntKind → Bool
  | .i64, .i64 => true
  | .u8, .u8 => true
  | .u64, .u64 => true
  | .u32, .u32 => true
  | .i32, .i32 => true
  | .u16, .u16 => true
  | .i16, .i16 => true
  | .i8, .i8 => true
  | _, _ => false
theorem sameK_eq {k k' : IntKind} (h : sameK k k' = true) : k = k' := by cases k <;> cases k' <;> first | rfl | cases h
def binA (op : BinOp) (x y : Value) (K : Value → Prop) : Prop :=
  match x, y with
  | .int k a, .int k' b =>
    match op with
    | .add => bif sameK k k' then Wr k (a + b) fun z => K (.int k z) else False
    | .sub => bif sameK k k' then Wr k (a - b) fun z => K (.int k z) else False
    | .mul => bif sameK k k' then Wr k (a * b) fun z => K (.int k z) else False
    | .quo => bif sameK k k' then Cd (b ≠ 0) (Wr k (a.tdiv b) fun z => K (.int k z)) else False
    | .rem => bif sameK k k' then Cd (b ≠ 0) (Ev (a.tmod b) fun z => K (.int k z)) else False
    | .and => bif sameK k k' then Wr k (BitVec.ofInt k.bits a &&& BitVec.ofInt k.bits b).toNat fun z => K (.int k z) else False
    | .or => bif sameK k k' then Wr k (BitVec.ofInt k.bits a ||| BitVec.ofInt k.bits b).toNat fun z => K (.int k z) else False
    | .xor => bif sameK k k' then Wr k (BitVec.ofInt k.bits a ^^^ BitVec.ofInt k.bits b).toNat fun z => K (.int k z) else False
    | .andNot => bif sameK k k' then Wr k (BitVec.ofInt k.bits a &&& ~~~BitVec.ofInt k.bits b).toNat fun z => K (.int k z) else False
    | .shl => Cd (0 ≤ b) (Wr k (a * 2 ^ (min b.toNat k.bits)) fun z => K (.int k z))
    | .shr => Cd (0 ≤ b) (Ev (a.fdiv (2 ^ (min b.toNat k.bits))) fun z => K (.int k z))
    | .eql => bif sameK k k' then K (.bool (a == b)) else False
    | .neq => bif sameK k k' then K (.bool (a != b)) else False
    | .lss => bif sameK k k' then K (.bool (decide (a < b))) else False
    | .leq => bif sameK k k' then K (.bool (decide (a ≤ b))) else False
    | .gtr => bif sameK k k' then K (.bool (decide (a > b))) else False
    | .geq => bif sameK k k' then K (.bool (decide (a ≥ b))) else False
  | _, _ => False
theorem binA_run {op : BinOp} {T : Nat} {vx vy : Value} {K : Value → Prop} {x y : Operand} (hp : binA op vx vy K) : ∃ v, K v ∧ v.oneCell' = true ∧ (do eqGuard op T x y vx vy; binOp op T vx vy : Sem Value).run P w = .ok v w := by
  cases vx <;> cases vy <;> try exact hp.elim
  rename_i k a k' b
  have hg : (eqGuard op T x y (.int k a) (.int k' b)).run P w = .ok () w := by
    unfold eqGuard; split <;> rfl
  rw [Sem.run_bind, hg]
  have sk : ∀ {X : Prop}, (bif sameK k k' then X else False) → k = k' ∧ X := fun {X} h => by
    cases hs : sameK k k' with
    | true => rw [hs] at h; exact ⟨sameK_eq hs, h⟩
    | false => rw [hs] at h; exact h.elim
  cases op <;> simp only [binA] at hp
  case add => obtain ⟨rfl, h⟩ := sk hp; obtain ⟨z, rfl, h⟩ := h.out; exact ⟨_, h, rfl, by simp [binOp, Op.intArith]⟩
  case sub => obtain ⟨rfl, h⟩ := sk hp; obtain ⟨z, rfl, h⟩ := h.out; exact ⟨_, h, rfl, by simp [binOp, Op.intArith]⟩
  case mul => obtain ⟨rfl, h⟩ := sk hp; obtain ⟨z, rfl, h⟩ := h.out; exact ⟨_, h, rfl, by simp [binOp, Op.intArith]⟩
  case quo => obtain ⟨rfl, h⟩ := sk hp; obtain ⟨h0, h⟩ := h.out; obtain ⟨z, rfl, h⟩ := h.out; exact ⟨_, h, rfl, by simp [binOp, Op.intDiv, h0]⟩
  case rem => obtain ⟨rfl, h⟩ := sk hp; obtain ⟨h0, h⟩ := h.out; obtain ⟨z, rfl, h⟩ := h.out; exact ⟨_, h, rfl, by simp [binOp, Op.intDiv, h0]⟩
  case and => obtain ⟨rfl, h⟩ := sk hp; obtain ⟨z, rfl, h⟩ := h.out; exact ⟨_, h, rfl, by simp [binOp, Op.intBits]⟩
  case or => obtain ⟨rfl, h⟩ := sk hp; obtain ⟨z, rfl, h⟩ := h.out; exact ⟨_, h, rfl, by simp [binOp, Op.intBits]⟩
  case xor => obtain ⟨rfl, h⟩ := sk hp; obtain ⟨z, rfl, h⟩ := h.out; exact ⟨_, h, rfl, by simp [binOp, Op.intBits]⟩
  case andNot => obtain ⟨rfl, h⟩ := sk hp; obtain ⟨z, rfl, h⟩ := h.out; exact ⟨_, h, rfl, by simp [binOp, Op.intBits]⟩
  case shl => obtain ⟨h0, h⟩ := hp.out; obtain ⟨z, rfl, h⟩ := h.out; exact ⟨_, h, rfl, by simp [binOp, Op.shift, Int.not_lt.2 h0]⟩
  case shr => obtain ⟨h0, h⟩ := hp.out; obtain ⟨z, rfl, h⟩ := h.out; exact ⟨_, h, rfl, by simp [binOp, Op.shift, Int.not_lt.2 h0]⟩
  case eql => obtain ⟨rfl, h⟩ := sk hp; exact ⟨_, h, rfl, by simp [binOp, Op.intCmp]⟩
  case neq => obtain ⟨rfl, h⟩ := sk hp; exact ⟨_, h, rfl, by simp [binOp, Op.intCmp]⟩
  case lss => obtain ⟨rfl, h⟩ := sk hp; exact ⟨_, h, rfl, by simp [binOp, Op.intCmp]⟩
  case leq => obtain ⟨rfl, h⟩ := sk hp; exact ⟨_, h, rfl, by simp [binOp, Op.intCmp]⟩
  case gtr => obtain ⟨rfl, h⟩ := sk hp; exact ⟨_, h, rfl, by simp [binOp, Op.intCmp]⟩
  case geq => obtain ⟨rfl, h⟩ := sk hp; exact ⟨_, h, rfl, by simp [binOp, Op.intCmp]⟩
theorem sc_slot {v : Value} (h : v.oneCell' = true) : SlotV w S F (tvs a) NO (.hold .one [.v v]) v :=
  ⟨NO, NO, fun _ _ h => h, fun _ _ h => h, fun _ _ _ h => h, rfl, fun _ => NO, fun j c hj => by cases j with | zero => simp at hj; subst hj; exact .v _ _ h | succ j => simp at hj, fun _ _ _ _ h => h, fun _ _ _ _ _ _ _ h => h.elim⟩
end
end Go.Proofs.YthinjmmlpgjhnaaGreat.Ab
