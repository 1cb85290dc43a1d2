/- Each operation that writes only its own slot, on abstract frames, and that the model's own operation does so. No condition. -/
import Derived.Test.YthinjmmlpgjhnaaGreatAbO
namespace Go.Proofs.YthinjmmlpgjhnaaGreat.Ab
open Go.RowKit

/-- The operation o yields a value v in a world w1 with R v w1. -/
def Yld (P : Program) (o : Oper) (a : Act) (w : World) (R : Value → World → Prop) : Prop :=
  ∀ (Kc : Act → World → Prop) (Q : Exit → Act → World → Prop), (∀ v w1, R v w1 → Kc (a.put o.dst v) w1) → o.wp P a w Kc Q
theorem Yld.value {P : Program} {o : Oper} {a : Act} {w w1 : World} {R : Value → World → Prop} {v : Value} (h : (execOp a.eval o).run P w = .ok (.value v) w1) (hR : R v w1) : Yld P o a w R := by
  intro Kc Q hk
  unfold Oper.wp
  rw [h, Oper.upon_value]
  exact hk v w1 hR
theorem Yld.skip {P : Program} {o : Oper} {a : Act} {w w1 : World} {R : Value → World → Prop} (h : (execOp a.eval o).run P w = .ok .skip w1) (hR : R undef w1) : Yld P o a w R := by
  intro Kc Q hk
  unfold Oper.wp
  rw [h, Oper.upon_skip]
  exact hk undef w1 hR
theorem Yld.enter {P : Program} {o : Oper} {a : Act} {w : World} {R : Value → World → Prop} {f : FuncId} {args : Array Value} (h : (execOp a.eval o).run P w = .ok (.enter f args) w)
    (hc : Calls P f args w fun e w1 => ∃ v, e = .returned v ∧ R v w1) : Yld P o a w R := by
  intro Kc Q hk
  unfold Oper.wp
  rw [h, Oper.upon_enter]
  refine hc.mono fun e w1 he => ?_
  obtain ⟨v, rfl, hR⟩ := he
  exact hk v w1 hR
theorem Yld.mono {P : Program} {o : Oper} {a : Act} {w : World} {R R' : Value → World → Prop} (h : Yld P o a w R) (hR : ∀ v w1, R v w1 → R' v w1) : Yld P o a w R' :=
  fun Kc Q hk => h Kc Q fun v w1 hr => hk v w1 (hR v w1 hr)

/-- A value that fits av, with cells of its own that are new; other new cells may be such that nobody writes them. -/
def NewR (w : World) (S : CellSet) (F : Nat → AV) (a : Act) (av : AV) (v : Value) (w1 : World) : Prop :=
  Keeps NO w w1 ∧ ∃ X S1 : CellSet, (∀ b o, X b o → b < w1.heap.size ∧ w.heap.size ≤ b) ∧ (∀ b o, S b o → S1 b o) ∧ (∀ b o, S1 b o → S b o ∨ (b < w1.heap.size ∧ w.heap.size ≤ b)) ∧ (∀ b o, X b o → ¬ S1 b o) ∧ SlotV w1 S1 F (tvs a) X av v

theorem Rep.bare {w : World} {S F F' : CellSet} {c : C} {v : Value} (h : Rep w S F c v) (hc : isOwn c = false) : Rep w S F' c v := by
  induction h with
  | v F x h1 => exact .v _ x h1
  | x F u h1 => exact .x _ u h1
  | z F a => exact .z _ a
  | nil F o a ho => exact .nil _ o a ho
  | imm F g off k n cap rows u hn hk hcap hS hc2 _ => exact .imm _ g off k n cap rows u hn hk hcap hS hc2
  | own F o g k n cap rows u f ho => cases o with | imm => exact ho.elim | own => cases hc | tag v => cases hc
  | m F b clock es ents hF hb he hv => cases hc
theorem noOwn_spec : ∀ {cs : List C}, noOwn cs = true → ∀ (j : Nat) (c : C), cs[j]? = some c → isOwn c = false
  | [], _, j, c, h => by simp at h
  | c0 :: cs, h, j, c, hj => by
    simp only [noOwn] at h
    cases h0 : isOwn c0 with
    | true => rw [h0] at h; cases h
    | false =>
      rw [h0] at h
      cases j with
      | zero => simp at hj; subst hj; exact h0
      | succ j => exact noOwn_spec h j c (by simpa using hj)
theorem Row.bare {w : World} {S F F' : CellSet} {cs : List C} {u : Nat → Value} (h : Row w S F cs u) (hc : noOwn cs = true) : Row w S F' cs u := by
  obtain ⟨f, h1, -, -⟩ := h
  exact ⟨fun _ => NO, fun j c hj => (h1 j c hj).bare (noOwn_spec hc j c hj), fun _ _ _ _ h => h.elim, fun _ _ _ _ _ _ _ h => h.elim⟩
theorem topU_mkv {w : World} {n : Nat} {u : Nat → Value} {j : Nat} (hj : j < n) : topU w .agg (mkv (some n) u) j = u j := by
  simp [topU, mkv, Value.cells, List.getD, hj]
def kdOf : Option Nat → Kd
  | none => .one
  | some _ => .agg
/-- A value with the cells cs, held. -/
theorem ValOk.slot {w : World} {S Y : CellSet} {F : Nat → AV} {tv : Nat → Value} {ag : Option Nat} {cs : List C} {v : Value} (h : ValOk w S Y ag cs v) : SlotV w S F tv Y (.hold (kdOf ag) cs) v := by
  obtain ⟨hl, u, rfl, hr⟩ := h
  cases ag with
  | none =>
    refine ⟨NO, Y, fun _ _ h => h.elim, fun _ _ h => h, fun _ _ h => h.elim, hl, hr.congr fun j hj => ?_⟩
    have : j = 0 := by simp at hl; omega
    subst this; rfl
  | some n =>
    simp only [Option.getD_some] at hl
    exact ⟨NO, Y, fun _ _ h => h.elim, fun _ _ h => h, fun _ _ h => h.elim, ⟨_, rfl, by simp [hl]⟩, hr.congr fun j hj => topU_mkv (by omega)⟩
theorem ValOk.bare {w : World} {S Y Y' : CellSet} {ag : Option Nat} {cs : List C} {v : Value} (h : ValOk w S Y ag cs v) (hc : noOwn cs = true) : ValOk w S Y' ag cs v :=
  ⟨h.1, h.2.choose, h.2.choose_spec.1, h.2.choose_spec.2.bare hc⟩

/- move, assign of what is not the call's own, nilCheck -/
def aMove (F : Nat → AV) (x : Operand) (K : AV → Prop) : Prop :=
  match x with
  | .tmp t => match F t with
    | .hold .box _ => K (.ref t 0 [])
    | .hold .one cs => bif noOwn cs then K (.hold .one cs) else K (.bor t 0 [] none)
    | .hold .agg cs => bif noOwn cs then K (.hold .agg cs) else K (.bor t 0 [] (some cs.length))
    | .hold (.tup _) _ => False
    | .ref t off st => K (.ref t off st)
    | .bor t off st ag => K (.bor t off st ag)
    | .iref r off => K (.iref r off)
    | .fn f caps => K (.fn f caps)
    | .dead => K .dead
  | .const v => K (constA v)
  | .global _ => K .dead
  | .func f => K (.fn f [])

section
variable {P : Program} {w0 w w1 : World} {M S0 S : CellSet} {N : Lim} {φ : Nat → CellSet} {F : Nat → AV} {a : Act}

theorem StX.move (h : StX w0 M S0 N S φ F a w) {x : Operand} {K : AV → Prop} (hp : aMove F x K) : ∃ av, K av ∧ SlotV w S F (tvs a) NO av (a.eval x) := by
  have hev := h.ev x
  cases x with
  | tmp t =>
    simp only [aMove] at hp
    simp only [evA, opX] at hev
    show ∃ av, K av ∧ SlotV w S F (tvs a) NO av (tvs a t)
    replace hev : SlotV w S F (tvs a) (φ t) (F t) (tvs a t) := hev
    cases hF : F t with
    | hold k cs =>
      rw [hF] at hp hev
      obtain ⟨X1, Y, h1, h2, h3, h4, h5⟩ := hev
      cases k with
      | box =>
        obtain ⟨g, o, hv, -⟩ := h4
        exact ⟨_, hp, .box, cs, cs, 0, g, o, hF, rfl, by rw [hv]; rfl, hv⟩
      | one =>
        simp only at hp
        cases hn : noOwn cs with
        | true => rw [hn] at hp; exact ⟨_, hp, NO, NO, fun _ _ h => h, fun _ _ h => h, fun _ _ h => h.elim, h4, h5.bare hn⟩
        | false =>
          rw [hn] at hp
          exact ⟨_, hp, .one, cs, cs, 0, hF, rfl, by simp [show cs.length = 1 from h4], rfl⟩
      | agg =>
        simp only at hp
        cases hn : noOwn cs with
        | true => rw [hn] at hp; exact ⟨_, hp, NO, NO, fun _ _ h => h, fun _ _ h => h, fun _ _ h => h.elim, h4, h5.bare hn⟩
        | false =>
          rw [hn] at hp
          refine ⟨_, hp, .agg, cs, cs, 0, hF, rfl, by simp, ?_⟩
          obtain ⟨arr, hv, hsz⟩ := h4
          rw [hv, mkv_agg, hsz]
          refine mkv_congr fun j hj => ?_
          show _ = topU w .agg _ (0 + j)
          rw [Nat.zero_add, topU_mkv (by simpa using hj)]
      | tup sh => exact hp.elim
    | dead => rw [hF] at hp; exact ⟨_, hp, trivial⟩
    | ref => rw [hF] at hp hev; exact ⟨_, hp, hev⟩
    | bor => rw [hF] at hp hev; exact ⟨_, hp, hev⟩
    | iref => rw [hF] at hp hev; exact ⟨_, hp, hev⟩
    | fn => rw [hF] at hp hev; exact ⟨_, hp, hev⟩
  | const v => exact ⟨_, hp, hev⟩
  | global g => exact ⟨_, hp, hev⟩
  | func f => exact ⟨_, hp, hev⟩
theorem Yld.same {o : Oper} {av : AV} {v : Value} (h : (execOp a.eval o).run P w = .ok (.value v) w) (hs : SlotV w S F (tvs a) NO av v) : Yld P o a w (NewR w S F a av) :=
  .value h ⟨Keeps.refl _ _, NO, S, fun _ _ h => h.elim, fun _ _ h => h, fun _ _ h => .inl h, fun _ _ h => h.elim, hs⟩

/- loads -/
def agOf (i : TI) : Option Nat := bif i.agg then some i.size else none
def ldA (F : Nat → AV) (i : TI) (t off : Nat) (st : Steps) (K : AV → Prop) : Prop :=
  rowA F t off st fun r j => bif Nat.beq (takeA r j i.size).length i.size then (bif noOwn (takeA r j i.size) then K (.hold (kdOf (agOf i)) (takeA r j i.size)) else K (.bor t off st (agOf i))) else False
def aLoad (TE : Nat → Option TI) (F : Nat → AV) (T : Nat) (x : Operand) (K : AV → Prop) : Prop :=
  match TE T with
  | none => False
  | some i => bif i.agg || Nat.beq i.size 1 then (match x with
    | .tmp t => match F t with
      | .hold .box _ => ldA F i t 0 [] K
      | .ref t off st => ldA F i t off st K
      | .iref r off => bif Nat.beq (takeA r off i.size).length i.size then K (.hold (kdOf (agOf i)) (takeA r off i.size)) else False
      | _ => False
    | _ => False) else False

theorem addr_add (g o j : Nat) : (⟨g, o, none⟩ : Addr).add j = ⟨g, o + j, none⟩ := by unfold Addr.add; split <;> simp_all
theorem TOk.size {t : Nat} {i : TI} (h : TOk P t i) : (P.info? t).map (·.size) = some i.size := by
  have := h.1
  cases hq : P.info? t with
  | none => rw [hq] at this; cases this
  | some q => rw [hq] at this; simp only [Option.map_some, Option.some.injEq, Prod.mk.injEq] at this ⊢; exact this.2.1
theorem TOk.isAgg {t : Nat} {i : TI} (h : TOk P t i) : (isAgg t).run P w = .ok i.agg w := by
  have := h.2.2
  unfold Go.isAgg TI.agg
  cases hk : i.kind with
  | st flds => rw [hk] at this; obtain ⟨fs, h1, -⟩ := this; simp [run_underlying h1]
  | sl e => rw [hk] at this; simp [run_underlying this]
  | sc d => rw [hk] at this; obtain ⟨h1, h2⟩ := this; simp [run_underlying h1]; cases d <;> first | exact h2.elim | rfl
  | mp k e z => rw [hk] at this; simp [run_underlying this.1]
theorem run_size {t n : Nat} (h : (P.info? t).map (·.size) = some n) : (sizeOf t).run P w = .ok n w := by
  cases hq : P.info? t with
  | none => rw [hq] at h; cases h
  | some q => rw [hq] at h; simp only [Option.map_some, Option.some.injEq] at h; simp [sizeOf, typeInfo, hq, h]
theorem load_run {T : Nat} {i : TI} (ht : TOk P T i) (ha : (i.agg || Nat.beq i.size 1) = true) {g o : Nat} {u : Nat → Value} (hc : ∀ d, d < i.size → cel w g (o + d) = some (u d)) :
    (Instr.loadAt T (.pointer (some ⟨g, o, none⟩))).run P w = .ok (mkv (agOf i) u) w := by
  have hA := ht.isAgg (w := w)
  unfold Instr.loadAt Instr.sureAddr loadVar agOf
  cases hagg : i.agg with
  | true =>
    rw [hagg] at hA
    have := run_loadCells (P := P) w ⟨g, o, none⟩ i.size u (fun j hj => by rw [addr_add]; exact hc j hj)
    simp [hA, run_size ht.size, this, mkv]
  | false =>
    rw [hagg] at hA ha
    have h1 : i.size = 1 := by simpa using ha
    have := hc 0 (by omega)
    simp only [Nat.add_zero] at this
    simp [hA, this, mkv]
theorem takeA_len {r : List C} {j n : Nat} (h : Nat.beq (takeA r j n).length n = true) : n = 0 ∨ j + n ≤ r.length := by
  have := Nat.eq_of_beq_eq_true h
  simp [takeA] at this
  omega
theorem agOf_len {i : TI} (ha : (i.agg || Nat.beq i.size 1) = true) : (agOf i).getD 1 = i.size := by
  unfold agOf
  cases h : i.agg with
  | true => rfl
  | false => rw [h] at ha; simp at ha ⊢; omega
theorem StX.ld (h : StX w0 M S0 N S φ F a w) {T : Nat} {i : TI} (ht : TOk P T i) (ha : (i.agg || Nat.beq i.size 1) = true) {t off : Nat} {st : Steps} {k : Kd} {cs r : List C} {j g o : Nat} {K : AV → Prop} (hF : F t = .hold k cs)
    (hr : rowAt cs off st = some (r, j)) (hpl : plc w (topU w k (tvs a t)) (topA k (tvs a t)) off st = some (g, o)) (hp : ldA F i t off st K) :
    ∃ av v, K av ∧ (Instr.loadAt T (.pointer (some ⟨g, o, none⟩))).run P w = .ok v w ∧ SlotV w S F (tvs a) NO av v := by
  obtain ⟨Y, u, hY, hrow, hcv, hcell⟩ := h.place hF hr
  obtain ⟨k', cs', r', j', hF', hr', hK⟩ := rowA_spec hp
  rw [hF] at hF'
  simp only [AV.hold.injEq] at hF'
  obtain ⟨rfl, rfl⟩ := hF'
  rw [hr] at hr'
  simp only [Option.some.injEq, Prod.mk.injEq] at hr'
  obtain ⟨rfl, rfl⟩ := hr'
  cases hlen : Nat.beq (takeA r j i.size).length i.size with
  | false => rw [hlen] at hK; exact hK.elim
  | true =>
    rw [hlen] at hK
    simp only [cond_true] at hK
    obtain ⟨b, rfl, hc⟩ := hcell g o hpl
    have hln := takeA_len hlen
    have hrun := load_run (w := w) ht ha (g := g) (o := b + j) (u := fun d => u (j + d)) (fun d hd => by rw [Nat.add_assoc]; exact hc _ (by omega))
    have hval : ValOk w S Y (agOf i) (takeA r j i.size) (mkv (agOf i) fun d => u (j + d)) := ⟨by rw [agOf_len ha]; exact Nat.eq_of_beq_eq_true hlen, _, rfl, hrow.part j _⟩
    cases hn : noOwn (takeA r j i.size) with
    | true =>
      rw [hn] at hK
      exact ⟨_, _, hK, hrun, (hval.bare hn).slot⟩
    | false =>
      rw [hn] at hK
      have h0 : i.size ≠ 0 := fun e => by simp [takeA, e, noOwn] at hn
      refine ⟨_, _, hK, hrun, k, cs, r, j, hF, hr, by rw [agOf_len ha]; omega, ?_⟩
      exact mkv_congr fun d _ => (hcv d).symm
theorem StX.load (h : StX w0 M S0 N S φ F a w) {TE : Nat → Option TI} (hTE : ∀ t i, TE t = some i → TOk P t i) {T : Nat} {x : Operand} {K : AV → Prop} (hp : aLoad TE F T x K) :
    ∃ av v, K av ∧ (Instr.loadAt T (a.eval x)).run P w = .ok v w ∧ SlotV w S F (tvs a) NO av v := by
  unfold aLoad at hp
  cases hT : TE T with
  | none => rw [hT] at hp; exact hp.elim
  | some i =>
    rw [hT] at hp
    have ht := hTE T i hT
    simp only at hp
    cases ha : (i.agg || Nat.beq i.size 1) with
    | false => rw [ha] at hp; exact hp.elim
    | true =>
      rw [ha] at hp
      cases x with
      | tmp t =>
        have hs := h.slot t
        show ∃ av v, K av ∧ (Instr.loadAt T (tvs a t)).run P w = .ok v w ∧ _
        simp only [cond_true] at hp
        cases hF : F t with
        | hold k cs =>
          rw [hF] at hp hs
          cases k with
          | box =>
            obtain ⟨X1, Y, h1, h2, h3, ⟨g, o, hv, -⟩, h5⟩ := hs
            have hpl : plc w (topU w .box (tvs a t)) (topA .box (tvs a t)) 0 [] = some (g, o) := by rw [hv]; rfl
            rw [hv]
            exact h.ld ht ha hF rfl hpl hp
          | _ => exact hp.elim
        | ref t' off st =>
          rw [hF] at hp hs
          obtain ⟨k, cs, r, j, g, o, h1, h2, h3, h4⟩ := hs
          rw [h4]
          exact h.ld ht ha h1 h2 h3 hp
        | iref r off =>
          rw [hF] at hp hs
          simp only at hp
          obtain ⟨g, b, u, h1, h2, h3⟩ := hs
          cases hlen : Nat.beq (takeA r off i.size).length i.size with
          | false => rw [hlen] at hp; exact hp.elim
          | true =>
            rw [hlen] at hp
            simp only [cond_true] at hp
            have hln := takeA_len hlen
            rw [h1]
            refine ⟨_, _, hp, load_run ht ha (u := fun d => u (off + d)) (fun d hd => by rw [Nat.add_assoc]; exact (h2 _ (by omega)).2), ?_⟩
            exact ValOk.slot ⟨by rw [agOf_len ha]; exact Nat.eq_of_beq_eq_true hlen, _, rfl, h3.part off _⟩
        | dead => rw [hF] at hp; exact hp.elim
        | bor => rw [hF] at hp; exact hp.elim
        | fn => rw [hF] at hp; exact hp.elim
      | _ => exact hp.elim
/-- More cells that nobody writes: new ones. -/
theorem StX.more (h : StX w0 M S0 N S φ F a w) {S1 : CellSet} (h1 : ∀ b o, S b o → S1 b o) (h2 : ∀ b o, S1 b o → S b o ∨ (b < w1.heap.size ∧ w.heap.size ≤ b)) (hk : Keeps NO w w1) : StX w0 M S0 N S1 φ F a w1 := by
  have hall : ∀ X : CellSet, (∀ b o, X b o → b < w.heap.size) → SameOn X w w1 := fun X hX b o hb => ⟨hk.cel b o (hX b o hb) (fun h => h), hk.fro b o (hX b o hb) (fun h => h)⟩
  have hphi : ∀ t, SameOn (φ t) w w1 := fun t => hall _ fun b o hb => (h.ex t b o hb).1
  refine ⟨fun t => (h.slot t).keep (φ := φ) (fun t _ _ _ => h.slot t) (fun t _ => ⟨fun _ _ h => h, rfl, hphi t⟩) (hphi t) (hall _ fun b o hb => (h.sup b o hb).1) (fun _ _ h => h) h1, h.dis, fun t b o hb hS => ?_, fun t b o hb => ⟨Nat.lt_of_lt_of_le (h.ex t b o hb).1 hk.size, (h.ex t b o hb).2⟩,
    fun b o hb => h1 b o (h.sub b o hb), fun b o hb => ?_, h.old.trans hk (fun _ _ h => h.elim), h.size, h.defers, h.par⟩
  · rcases h2 b o hS with h' | h'
    · exact h.disS t b o hb h'
    · have := (h.ex t b o hb).1; omega
  · rcases h2 b o hb with h' | h'
    · exact ⟨Nat.lt_of_lt_of_le (h.sup b o h').1 hk.size, (h.sup b o h').2⟩
    · exact ⟨h'.1, .inr (.inl (Nat.le_trans h.old.size h'.2))⟩
/-- The slot that an operation writes, put anew. -/
theorem StX.put_newR (h : StX w0 M S0 N S φ F a w) {d : Nat} (hd : N.free d = true) {av : AV} {v : Value} (hv : NewR w S F a av v w1) (hav : av.uses d = false) : St w0 M S0 N (put F d av) (a.put (some d) v) w1 := by
  obtain ⟨hk, X, S1, h1, h2, h3, h4, h5⟩ := hv
  have h' := h.more h2 h3 hk
  exact ⟨S1, _, h'.put_gen (Keeps.refl _ _) hd h5 hav (fun b o hb => ⟨(h1 b o hb).1, .inl (Nat.le_trans h.old.size (h1 b o hb).2)⟩)
    (fun t _ b o hb hb' => by have := (h.ex t b o hb').1; have := (h1 b o hb).2; omega) h4⟩
end
end Go.Proofs.YthinjmmlpgjhnaaGreat.Ab
