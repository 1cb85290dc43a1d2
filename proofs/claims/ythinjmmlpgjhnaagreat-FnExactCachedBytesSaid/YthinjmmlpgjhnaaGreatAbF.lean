/- The orders of a region: the text's order stands for all. No condition. -/
import Derived.Test.YthinjmmlpgjhnaaGreatAbD
import Derived.Orders
namespace Go.Proofs.YthinjmmlpgjhnaaGreat.Ab
open Go.RowKit

section
variable {P : Program} {w0 w w1 : World} {M S0 S : CellSet} {N : Lim} {φ : Nat → CellSet} {F : Nat → AV} {a : Act} {TE : Nat → Option TI} {ops : Array Oper}

def stepA (P : Program) (TE : Nat → Option TI) (N : Lim) (ops : Array Oper) (m i : Nat) (K : (Nat → AV) → Prop) (F : Nat → AV) : Prop :=
  match ops[i]? with
  | none => K F
  | some o => if i < m then aOneP P TE N ops o K F else aOne P TE N ops o K F
def anyA (P : Program) (TE : Nat → Option TI) (N : Lim) (ops : Array Oper) (m : Nat) (K : (Nat → AV) → Prop) : Nat → Array Bool → (Nat → AV) → Prop
  | 0, listed, F => Region.ready .any ops listed = [] ∧ K F
  | fuel + 1, listed, F => (Region.ready .any ops listed = [] → K F) ∧ ∀ i, i ∈ Region.ready .any ops listed → stepA P TE N ops m i (anyA P TE N ops m K fuel (listed.setIfInBounds i true)) F

/-- A slot-only operation is an operation. -/
theorem StX.oneP (h : StX w0 M S0 N S φ F a w) (hTE : ∀ t i, TE t = some i → TOk P t i) {o : Oper} {K : (Nat → AV) → Prop} (hp : aOneP P TE N ops o K F)
    {Kc : Act → World → Prop} {Q : Exit → Act → World → Prop} (hk : ∀ F' a' w', K F' → St w0 M S0 N F' a' w' → Kc a' w') :
    if Region.wanted o (yielded ops a.tmps) then o.wp P a w Kc Q else Kc (a.put o.dst undef) w := by
  unfold aOneP at hp
  rcases guard_spec h hp with ⟨hw, hp⟩ | ⟨hw, hp⟩
  · rw [hw, if_pos rfl]
    cases hd : o.dst with
    | none => rw [hd] at hp; exact hp.elim
    | some d =>
      rw [hd] at hp
      obtain ⟨av, hK, hy⟩ := h.pure_ hTE hp
      refine hy Kc Q fun v w' hn => ?_
      obtain ⟨F', hK', hst⟩ := h.putD_new hn hK
      rw [hd]
      exact hk F' _ w' hK' hst
  · rw [hw, if_neg (by simp)]
    cases hd : o.dst with
    | none => rw [hd] at hp; exact hp.elim
    | some d =>
      rw [hd] at hp
      obtain ⟨F', hK, hst⟩ := h.putD_new (v := undef) (NewR.same (av := .dead) trivial) hp
      exact hk F' _ w hK hst
theorem step_sound (hTE : ∀ t i, TE t = some i → TOk P t i) {m i : Nat} {K : (Nat → AV) → Prop} (hp : stepA P TE N ops m i K F) (hs : St w0 M S0 N F a w) {Kc : Act → World → Prop} {Q : Exit → Act → World → Prop}
    (hk : ∀ F' a' w', K F' → St w0 M S0 N F' a' w' → Kc a' w') : wpOp P ops Q i Kc a w := by
  unfold stepA at hp
  unfold wpOp
  cases ho : ops[i]? with
  | none => rw [ho] at hp; exact hk F a w hp hs
  | some o =>
    rw [ho] at hp
    simp only at hp ⊢
    obtain ⟨S, φ, h⟩ := hs
    have : if Region.wanted o (yielded ops a.tmps) then o.wp P a w Kc Q else Kc (a.put o.dst undef) w := by
      split at hp
      · exact h.oneP hTE hp hk
      · exact h.one hTE hp hk
    split
    · rename_i hw; rw [if_pos hw] at this; exact .inl this
    · rename_i hw; rw [if_neg hw] at this; exact this
theorem any_sound (hTE : ∀ t i, TE t = some i → TOk P t i) {m : Nat} {K : (Nat → AV) → Prop} {Q : Exit → Act → World → Prop} (hk : ∀ F' a' w', K F' → St w0 M S0 N F' a' w' → Q .normal a' w') :
    ∀ (fuel : Nat) (listed : Array Bool) (F : Nat → AV) (a : Act) (w : World), anyA P TE N ops m K fuel listed F → St w0 M S0 N F a w → wpAny P .any ops Q fuel listed a w
  | 0, _, F, a, w, hp, hs => ⟨hp.1, hk F a w hp.2 hs⟩
  | fuel + 1, _, F, a, w, hp, hs => ⟨fun h0 => hk F a w (hp.1 h0) hs, fun i hi => step_sound hTE (hp.2 i hi) hs fun F' a' w' hK hs' => any_sound hTE hk fuel _ F' a' w' hK hs'⟩

theorem kl_t {d : Nat} {v : AV} (h : v.uses d = true) : kl d v = .dead := by rw [kl_eq, h]; rfl
theorem kl_f {d : Nat} {v : AV} (h : v.uses d = false) : kl d v = v := by rw [kl_eq, h]; rfl
theorem kl_dead (d : Nat) : kl d .dead = .dead := rfl
theorem kl_comm (d e : Nat) (v : AV) : kl d (kl e v) = kl e (kl d v) := by
  cases h1 : v.uses d with
  | true =>
    cases h2 : v.uses e with
    | true => rw [kl_t h1, kl_t h2, kl_dead, kl_dead]
    | false => rw [kl_f h2, kl_t h1, kl_dead]
  | false =>
    cases h2 : v.uses e with
    | true => rw [kl_f h1, kl_t h2, kl_dead]
    | false => rw [kl_f h1, kl_f h2, kl_f h1]
theorem put_comm (F : Nat → AV) {d e : Nat} {v u : AV} (hne : d ≠ e) (hv : v.uses e = false) (hu : u.uses d = false) : put (put F d v) e u = put (put F e u) d v := by
  funext t
  by_cases h1 : t = d
  · subst h1
    rw [put_same, put_other _ _ hne, put_same]
    rw [kl_eq, hv]; rfl
  · by_cases h2 : t = e
    · subst h2
      rw [put_same, put_other _ _ (Ne.symm hne), put_same]
      rw [kl_eq, hu]; rfl
    · rw [put_other _ _ h2, put_other _ _ h1, put_other _ _ h1, put_other _ _ h2, kl_comm]
/-- No slot leads to the slot of an operation that is still to come. -/
def Clean (ops : Array Oper) (m : Nat) (F : Nat → AV) (listed : Array Bool) : Prop := ∀ j o d, j < m → ops[j]? = some o → listed.getD j true = false → o.dst = some d → ∀ t, (F t).uses d = false
theorem uses_kl {d e : Nat} {v : AV} (h : (kl d v).uses e = true) : v.uses e = true ∧ v.uses d = false := by
  rw [kl_eq] at h
  cases hd : v.uses d with
  | true => rw [hd] at h; cases h
  | false => rw [hd] at h; exact ⟨h, rfl⟩
theorem Clean.put {m j d : Nat} {listed : Array Bool} {av : AV} (h : Clean ops m F listed) (hav : ∀ j' o' d', j' < m → j' ≠ j → ops[j']? = some o' → listed.getD j' true = false → o'.dst = some d' → av.uses d' = false) :
    Clean ops m (put F d av) (listed.setIfInBounds j true) := by
  intro j' o' d' hm hj' hl hd' t
  have hne : j' ≠ j := fun e => by
    subst e
    have hlt : j' < listed.size := by
      rcases Nat.lt_or_ge j' listed.size with h | h
      · exact h
      · simp [Array.getD_eq_getD_getElem?, Array.getElem?_eq_none (show (listed.setIfInBounds j' true).size ≤ j' by simpa using h)] at hl
    simp [Array.getD_eq_getD_getElem?, hlt] at hl
  rw [getD_set_ne true (Ne.symm hne)] at hl
  by_cases ht : t = d
  · subst ht; rw [put_same]; exact hav j' o' d' hm hne hj' hl hd'
  · rw [put_other _ _ ht]
    cases hu : (kl d (F t)).uses d' with
    | false => rfl
    | true => have := (uses_kl hu).1; rw [h j' o' d' hm hj' hl hd' t] at this; cases this
/-- What the check says. -/
structure DOk (ops : Array Oper) (m : Nat) : Prop where
  back : ∀ j oj, ops[j]? = some oj → ∀ e ∈ oj.after, Region.binds .any e = true → e.on < j
  tail : ∀ j, m ≤ j → j < ops.size → ∀ i, i < j → hasEdge (opAt ops j) i = true
  apart : ∀ i j oi oj, i < m → j < m → i ≠ j → ops[i]? = some oi → ops[j]? = some oj → hasEdge oj i = true ∨ hasEdge oi j = true ∨ oi.apart ops oj = true
  look : ∀ i j oi oj d, i < m → j < m → i ≠ j → ops[i]? = some oi → ops[j]? = some oj → oi.dst = some d → d ∈ oj.looksAt ops → hasEdge oj i = true
theorem drawOk_spec {m : Nat} (h : drawOkM ops m = true) : DOk ops m := by
  have hb : ∀ j oj, ops[j]? = some oj → _ := fun j oj hj => below_spec h (Array.getElem?_eq_some_iff.1 hj).1
  refine ⟨fun j oj hj e he hbe => ?_, fun j hm hj i hi => ?_, fun i j oi oj hi hj hne h1 h2 => ?_, fun i j oi oj d hi hj hne h1 h2 hd hl => ?_⟩
  · have := hb j oj hj
    rw [opAt_some hj] at this
    simp only [Bool.and_eq_true] at this
    have := List.all_eq_true.1 this.1 e (by simpa using he)
    rw [hbe] at this
    simpa [Nat.blt_eq] using this
  · have hj' := (show ops[j]? = some ops[j] from Array.getElem?_eq_getElem hj)
    have := hb j _ hj'
    simp only [Bool.and_eq_true] at this
    have h3 := this.2
    rw [show Nat.blt j m = false by rw [← Bool.not_eq_true, Nat.blt_eq]; omega] at h3
    exact below_spec h3 hi
  · have := hb j oj h2
    rw [opAt_some h2] at this
    simp only [Bool.and_eq_true] at this
    have h3 := this.2
    rw [show Nat.blt j m = true by simpa [Nat.blt_eq] using hj] at h3
    have h4 := below_spec h3 hi
    rw [opAt_some h1, show Nat.beq i j = false by rw [← Bool.not_eq_true, Nat.beq_eq]; exact hne] at h4
    simp only [Bool.false_or, Bool.and_eq_true, Bool.or_eq_true] at h4
    rcases h4.1 with (h | h) | h
    · exact .inl h
    · exact .inr (.inl h)
    · exact .inr (.inr h)
  · have := hb j oj h2
    rw [opAt_some h2] at this
    simp only [Bool.and_eq_true] at this
    have h3 := this.2
    rw [show Nat.blt j m = true by simpa [Nat.blt_eq] using hj] at h3
    have h4 := below_spec h3 hi
    rw [opAt_some h1, show Nat.beq i j = false by rw [← Bool.not_eq_true, Nat.beq_eq]; exact hne] at h4
    simp only [Bool.false_or, Bool.and_eq_true, Bool.or_eq_true] at h4
    rcases h4.2 with h | h
    · exfalso
      unfold looksD at h
      rw [opAt_some h1, hd] at h
      simp only at h
      rw [opAt_some h2] at h
      have : (oj.looksAt ops).any (Nat.beq d) = true := List.any_eq_true.2 ⟨d, hl, Nat.beq_refl d⟩
      rw [this] at h; cases h
    · exact h
theorem any_first {m : Nat} (hok : DOk ops m) {i d : Nat} {oi : Oper} {av : AV} {K : (Nat → AV) → Prop} (hi : ops[i]? = some oi) (him : i < m) :
    ∀ (fuel : Nat) (listed : Array Bool) (F : Nat → AV), i ∈ Region.ready .any ops listed → Clean ops m F listed → Yl P TE N ops oi F d av → anyA P TE N ops m K fuel (listed.setIfInBounds i true) (put F d av) → anyA P TE N ops m K (fuel + 1) listed F := by
  intro fuel
  induction fuel with
  | zero =>
    intro listed F hr hcl hy H
    refine ⟨fun h => (by rw [h] at hr; cases hr), fun j hj => ?_⟩
    by_cases hji : j = i
    · subst hji
      unfold stepA
      rw [hi]
      simp only [if_pos him]
      exact hy.at_ F (Agr.refl _ _) _ H
    · have := ready_mono hj hji
      rw [H.1] at this
      cases this
  | succ fuel ih =>
    intro listed F hr hcl hy H
    refine ⟨fun h => (by rw [h] at hr; cases hr), fun j hj => ?_⟩
    by_cases hji : j = i
    · subst hji
      unfold stepA
      rw [hi]
      simp only [if_pos him]
      exact hy.at_ F (Agr.refl _ _) _ H
    · have h1 := H.2 j (ready_mono hj hji)
      obtain ⟨hjun, oj, hoj, hall⟩ := mem_ready.1 hj
      have hiun := (mem_ready.1 hr).1
      -- an operation that is still to come: no edge to it from one that is ready
      have noedge : ∀ k ok, ops[k]? = some ok → listed.getD k true = false → hasEdge oj k = false := fun k ok hk hkun => by
        rw [← Bool.not_eq_true]
        intro he
        obtain ⟨e, he1, he2, he3⟩ := hasEdge_spec.1 he
        have h1 := hall e he1 he2
        rw [he3] at h1
        rcases Nat.lt_or_ge k listed.size with h' | h'
        · simp [h'] at hkun h1; rw [hkun] at h1; cases h1
        · simp [Array.getElem?_eq_none h'] at h1
      have noedge' : ∀ k ok, ops[k]? = some ok → listed.getD k true = false → hasEdge oi k = false := fun k ok hk hkun => by
        rw [← Bool.not_eq_true]
        intro he
        obtain ⟨e, he1, he2, he3⟩ := hasEdge_spec.1 he
        obtain ⟨-, oi', hoi', hall'⟩ := mem_ready.1 hr
        rw [hi] at hoi'
        simp only [Option.some.injEq] at hoi'
        subst hoi'
        have h1 := hall' e he1 he2
        rw [he3] at h1
        rcases Nat.lt_or_ge k listed.size with h' | h'
        · simp [h'] at hkun h1; rw [hkun] at h1; cases h1
        · simp [Array.getElem?_eq_none h'] at h1
      have hjm : j < m := by
        rcases Nat.lt_or_ge j m with h | h
        · exact h
        · have := hok.tail j h (Array.getElem?_eq_some_iff.1 hoj).1 i (by omega)
          rw [opAt_some hoj, noedge i oi hi hiun] at this
          cases this
      have hap : oi.apart ops oj = true := by
        rcases hok.apart i j oi oj him hjm (Ne.symm hji) hi hoj with h | h | h
        · rw [noedge i oi hi hiun] at h; cases h
        · rw [noedge' j oj hoj hjun] at h; cases h
        · exact h
      obtain ⟨ap1, ap2, ap3⟩ := Oper.apart_spec hap
      unfold stepA at h1 ⊢
      rw [hoj] at h1 ⊢
      simp only [if_pos hjm] at h1 ⊢
      obtain ⟨dj, avj, hyj, hKj⟩ := oneP_spec h1
      have hdne : d ≠ dj := fun e => ap2 d hy.dst (by rw [hyj.dst, e])
      have hdl : d ∉ oj.looksAt ops := ap1 d hy.dst
      have hdjl : dj ∉ oi.looksAt ops := ap3 dj hyj.dst
      have cd : ∀ t, (F t).uses d = false := hcl i oi d him hi hiun hy.dst
      have cdj : ∀ t, (F t).uses dj = false := hcl j oj dj hjm hoj hjun hyj.dst
      have klF : ∀ e t, (∀ t, (F t).uses e = false) → kl e (F t) = F t := fun e t h => by rw [kl_eq, h t]; rfl
      -- what oj looks at, at F
      have agrj : Agr (put F d av) F (oj.looksAt ops) := fun t ht => by
        have hne : t ≠ d := fun e => hdl (e ▸ ht)
        rw [put_other _ _ hne, klF d t cd]
        refine ⟨rfl, fun t' hu k cs hh => ?_⟩
        have hne' : t' ≠ d := fun e => by rw [e, cd t] at hu; cases hu
        rw [put_other _ _ hne', klF d t' cd] at hh
        exact hh
      have avd : av.uses dj = false := by
        cases hu : av.uses dj with
        | false => rfl
        | true =>
          rcases hy.from_ dj hu with h | ⟨t, _, h⟩
          · exact absurd h hdjl
          · rw [cdj t] at h; cases h
      have avjd : avj.uses d = false := by
        cases hu : avj.uses d with
        | false => rfl
        | true =>
          rcases hyj.from_ d hu with h | ⟨t, ht, h⟩
          · exact absurd h hdl
          · have hne : t ≠ d := fun e => hdl (e ▸ ht)
            rw [put_other _ _ hne, klF d t cd, cd t] at h; cases h
      refine hyj.at_ F agrj _ (ih (listed.setIfInBounds j true) (put F dj avj) (ready_mono hr (Ne.symm hji)) (hcl.put fun j' o' d' hm' hne' hj' hl' hd' => ?_) ?_ ?_)
      · cases hu : avj.uses d' with
        | false => rfl
        | true =>
          rcases hyj.from_ d' hu with h | ⟨t, ht, h⟩
          · have := hok.look j' j o' oj d' hm' hjm hne' hj' hoj hd' h
            rw [noedge j' o' hj' hl'] at this; cases this
          · have hne : t ≠ d := fun e => hdl (e ▸ ht)
            rw [put_other _ _ hne, klF d t cd, hcl j' o' d' hm' hj' hl' hd' t] at h; cases h
      · refine ⟨hy.dst, hy.lt, hy.self, fun e he => ?_, fun F' hA K' hK => hy.at_ F' (fun t ht => ?_) K' hK⟩
        · rcases hy.from_ e he with h | ⟨t, ht, h⟩
          · exact .inl h
          · have hne : t ≠ dj := fun e => hdjl (e ▸ ht)
            exact .inr ⟨t, ht, by rw [put_other _ _ hne, klF dj t cdj]; exact h⟩
        · have hne : t ≠ dj := fun e => hdjl (e ▸ ht)
          obtain ⟨a1, a2⟩ := hA t ht
          rw [put_other _ _ hne, klF dj t cdj] at a1 a2
          refine ⟨a1, fun t' hu k cs hh => a2 t' hu k cs ?_⟩
          have hne' : t' ≠ dj := fun e => by rw [e, cdj t] at hu; cases hu
          rw [put_other _ _ hne', klF dj t' cdj]
          exact hh
      · rw [Array.setIfInBounds_comm _ _ hji, ← put_comm F hdne avd avjd]
        exact hKj
theorem pure_mono {o : Op} {K K' : AV → Prop} (h : aPure P TE F o K) (hk : ∀ av, K av → K' av) : aPure P TE F o K' := by
  obtain ⟨av, h1, -, h3⟩ := pure_loc h
  exact h3 F (Agr.refl _ _) K' (hk av h1)
theorem putD_mono {d : Nat} {av : AV} {K K' : (Nat → AV) → Prop} (h : putD N F d av K) (hk : ∀ F', K F' → K' F') : putD N F d av K' := by
  unfold putD at h ⊢
  cases hc : (N.free d && !av.uses d) with
  | false => rw [hc] at h; exact h.elim
  | true => rw [hc] at h; exact hk _ h
theorem take_mono {y : Operand} {K K' : (Nat → AV) → Option Nat → List C → Prop} (h : aTake F y K) (hk : ∀ F' ag cs, K F' ag cs → K' F' ag cs) : aTake F y K' := by
  cases y with
  | tmp t =>
    simp only [aTake] at h ⊢
    cases hF : F t with
    | hold k cs =>
      rw [hF] at h
      cases k with
      | one => exact hk _ _ _ h
      | agg => exact hk _ _ _ h
      | _ => exact h.elim
    | bor t2 off st ag =>
      rw [hF] at h
      cases st with
      | cons s st => exact h.elim
      | nil =>
        simp only at h ⊢
        cases hF2 : F t2 with
        | hold k cs =>
          rw [hF2] at h
          simp only at h ⊢
          cases hb : Nat.ble (off + ag.getD 1) cs.length with
          | false => rw [hb] at h; exact h.elim
          | true => rw [hb] at h; exact hk _ _ _ h
        | _ => rw [hF2] at h; exact h.elim
    | _ => rw [hF] at h; exact h.elim
  | _ => exact h.elim
theorem move_mono {x : Operand} {K K' : AV → Prop} (h : aMove F x K) (hk : ∀ av, K av → K' av) : aMove F x K' := by
  obtain ⟨av, h1, -, h3⟩ := move_loc h
  exact h3 F (Agr.refl _ _) K' (hk av h1)
theorem assign_mono {d : Nat} {x : Operand} {K K' : (Nat → AV) → Prop} (h : aAssign N F d x K) (hk : ∀ F', K F' → K' F') : aAssign N F d x K' := by
  have m1 : ∀ y, aMove F y (fun av => putD N F d av K) → aMove F y (fun av => putD N F d av K') := fun y h => move_mono h fun av h => putD_mono h hk
  have m2 : ∀ y, aTake F y (fun F' ag cs => putD N F' d (.hold (kdOf ag) cs) K) → aTake F y (fun F' ag cs => putD N F' d (.hold (kdOf ag) cs) K') := fun y h => take_mono h fun F' ag cs h => putD_mono h hk
  cases x with
  | tmp t =>
    unfold aAssign at h ⊢
    simp only at h ⊢
    cases hF : F t with
    | hold k cs =>
      rw [hF] at h
      cases k with
      | one =>
        simp only at h ⊢
        cases hn : noOwn cs with
        | true => rw [hn] at h; exact m1 (.tmp t) h
        | false => rw [hn] at h; exact m2 (.tmp t) h
      | agg =>
        simp only at h ⊢
        cases hn : noOwn cs with
        | true => rw [hn] at h; exact m1 (.tmp t) h
        | false => rw [hn] at h; exact m2 (.tmp t) h
      | tup sh => exact m1 _ h
      | box => exact m1 _ h
    | bor => rw [hF] at h; exact m2 _ h
    | dead => rw [hF] at h; exact m1 _ h
    | ref => rw [hF] at h; exact m1 _ h
    | iref => rw [hF] at h; exact m1 _ h
    | fn => rw [hF] at h; exact m1 _ h
  | const v => exact m1 (.const v) h
  | global g => exact m1 (.global g) h
  | func f => exact m1 (.func f) h
theorem putB_mono {x : Operand} {cs : List C} {K K' : (Nat → AV) → Prop} (h : aPutB F x cs K) (hk : ∀ F', K F' → K' F') : aPutB F x cs K' := by
  cases x with
  | tmp t =>
    simp only [aPutB] at h ⊢
    cases hF : F t with
    | hold k bs =>
      rw [hF] at h
      cases k with
      | box =>
        simp only at h ⊢
        cases hb : Nat.ble cs.length bs.length with
        | false => rw [hb] at h; exact h.elim
        | true => rw [hb] at h; simp only [cond_true, fc_eq] at h ⊢; exact hk _ h
      | _ => exact h.elim
    | ref t2 off st =>
      rw [hF] at h
      cases st with
      | cons s st =>
        simp only at h ⊢
        cases hF2 : F t2 with
        | hold k bs =>
          rw [hF2] at h
          obtain ⟨r, j, e1, e2, e3, hK⟩ := Pu.out h
          exact Pu.mk e1 e2 e3 rfl (hk _ hK)
        | _ => rw [hF2] at h; exact h.elim
      | nil =>
        simp only at h ⊢
        cases hF2 : F t2 with
        | hold k bs =>
          rw [hF2] at h
          cases k with
          | box =>
            simp only at h ⊢
            cases hb : Nat.ble (off + cs.length) bs.length with
            | false => rw [hb] at h; exact h.elim
            | true => rw [hb] at h; simp only [cond_true, fc_eq] at h ⊢; exact hk _ h
          | _ => exact h.elim
        | _ => rw [hF2] at h; exact h.elim
    | _ => rw [hF] at h; exact h.elim
  | _ => exact h.elim
theorem store_mono {T : Nat} {x y : Operand} {K K' : (Nat → AV) → Prop} (h : aStore TE F T x y K) (hk : ∀ F', K F' → K' F') : aStore TE F T x y K' := by
  unfold aStore at h ⊢
  split at h
  · rename_i i hT
    obtain ⟨ag, cs, h1, h2⟩ := valA_loc h
    refine h2 F (Agr.refl _ _) _ ?_
    cases hl : Nat.beq cs.length i.size with
    | false => rw [hl] at h1; exact h1.elim
    | true =>
      rw [hl] at h1
      simp only [cond_true] at h1 ⊢
      cases hn : noOwn cs with
      | true => rw [hn] at h1; exact putB_mono h1 hk
      | false =>
        rw [hn] at h1
        simp only [cond_false] at h1 ⊢
        refine take_mono h1 fun F' ag' cs' h => ?_
        cases hl' : Nat.beq cs'.length i.size with
        | false => rw [hl'] at h; exact h.elim
        | true => rw [hl'] at h; exact putB_mono h hk
  · exact h.elim
theorem guard_mono {g : Option (Nat × Bool)} {K1 K0 K1' K0' : (Nat → AV) → Prop} (h : guardA F ops g K1 K0) (h1 : ∀ F, K1 F → K1' F) (h0 : ∀ F, K0 F → K0' F) : guardA F ops g K1' K0' := by
  unfold guardA at h ⊢
  split at h
  · exact h1 _ h
  · rename_i j want
    split at h
    · rename_i d hd
      split at h
      · rename_i b hF
        replace h := Bf.out h
        cases b <;> cases want <;> first | exact .in_ (h1 _ h) | exact .in_ (h0 _ h)
      · exact h.elim
    · exact h.elim
theorem give_mono {x : Operand} {K K' : (Nat → AV) → Option Nat → List C → Prop} (h : aGive F x K) (hk : ∀ F' ag cs, K F' ag cs → K' F' ag cs) : aGive F x K' := by
  obtain ⟨ag, cs, h1, h2⟩ := valA_loc h
  refine h2 F (Agr.refl _ _) _ ?_
  cases hn : noOwn cs with
  | true => rw [hn] at h1; exact hk _ _ _ h1
  | false => rw [hn] at h1; exact take_mono h1 hk
theorem fillW_mono {pl : Nat → Option (Nat × Nat)} : ∀ {parts : List (Nat × Operand)} {cs : List C} {K K' : (Nat → AV) → List C → Prop} {F : Nat → AV}, fillW pl parts cs K F → (∀ F' cs, K F' cs → K' F' cs) → fillW pl parts cs K' F
  | [], cs, K, K', F, h, hk => hk _ _ h
  | p :: rest, cs, K, K', F, h, hk => by
    simp only [fillW] at h ⊢
    split at h
    case h_2 => exact h.elim
    rename_i q hq
    refine give_mono h fun F' ag xs h => ?_
    cases hb : (Nat.beq xs.length q.2 && Nat.ble (q.1 + q.2) cs.length) with
    | false => rw [hb] at h; exact h.elim
    | true =>
      rw [hb] at h
      simp only [cond_true, fc_eq] at h ⊢
      exact fillW_mono h hk
theorem buildW_mono {d T : Nat} {parts : List (Nat × Operand)} {K K' : (Nat → AV) → Prop} (h : aBuildW TE N F d T parts K) (hk : ∀ F', K F' → K' F') : aBuildW TE N F d T parts K' := by
  unfold aBuildW at h ⊢
  split at h
  case h_2 => exact h.elim
  rename_i size bytes zero flds hT
  cases ha : allT TE flds with
  | false => rw [ha] at h; exact h.elim
  | true => rw [ha] at h; exact fillW_mono h fun F' cs h => putD_mono h hk
theorem buildSW_mono {d T n : Nat} {parts : List (Nat × Operand)} {K K' : (Nat → AV) → Prop} (h : aBuildSW TE N F d T n parts K) (hk : ∀ F', K F' → K' F') : aBuildSW TE N F d T n parts K' := by
  obtain ⟨e, ie, h, hs⟩ := elT_sel h
  refine hs _ ?_
  cases hb : Nat.ble (n * ie.size) 16777216 with
  | false => rw [hb] at h; exact h.elim
  | true =>
    rw [hb] at h
    simp only [cond_true] at h ⊢
    split at h
    · exact putD_mono h hk
    · rw [fc_eq] at h ⊢
      refine fillW_mono h fun F' cs h => ?_
      rw [chA_eq] at h ⊢
      exact putD_mono h hk
    · exact h.elim
theorem src_mono {y : Operand} {K K' : Bool → (Nat → AV) → List (List C) → Prop} (h : srcA F y K) (hk : ∀ b F' xr, K b F' xr → K' b F' xr) : srcA F y K' := by
  unfold srcA at h ⊢
  split at h
  · refine take_mono h fun F' ag cs h => ?_
    match ag, cs, h with
    | none, [.s .own rows], h => exact hk _ _ _ h
  · obtain ⟨ag, cs, h1, h2⟩ := valA_loc h
    refine h2 F (Agr.refl _ _) _ ?_
    match ag, cs, h1 with
    | none, [.s o rows], h => exact hk _ _ _ h
    | none, [.z], h => exact hk _ _ _ h
theorem base_mono {x : Operand} {K K' : (Nat → AV) → List (List C) → Prop} (h : baseA F x K) (hk : ∀ F' xr, K F' xr → K' F' xr) : baseA F x K' := by
  obtain ⟨ag, cs, h1, h2⟩ := valA_loc h
  refine h2 F (Agr.refl _ _) _ ?_
  match ag, cs, h1 with
  | none, [.z], h => exact hk _ _ h
  | none, [.s .own _], h =>
    refine take_mono h fun F' ag cs h => ?_
    match ag, cs, h with
    | none, [.s .own rows], h => exact hk _ _ h
theorem appW_mono {d T : Nat} {x y : Operand} {K K' : (Nat → AV) → Prop} (h : aAppW TE N F d T x y K) (hk : ∀ F', K F' → K' F') : aAppW TE N F d T x y K' := by
  obtain ⟨e, ie, h, hs⟩ := elT_sel h
  refine hs _ (src_mono h fun b F' xr h => base_mono h fun F'' rows h => ?_)
  obtain ⟨h1, h2, h3, h4, h5, h6⟩ := h.out
  exact Ap.mk h1 h2 h3 h4 h5 rfl (putD_mono h6 hk)
theorem dst_mono {d : Nat} {op : Op} {K K' : (Nat → AV) → Prop} (h : aDst P TE N d op K F) (hk : ∀ F', K F' → K' F') : aDst P TE N d op K' F := by
  cases op with
  | assign x => exact assign_mono h hk
  | box T x => simp only [aDst, aBoxW] at h ⊢; exact give_mono h fun F' ag cs h => putD_mono h hk
  | build T ps => exact buildW_mono h hk
  | buildSlice T n ps => exact buildSW_mono h hk
  | call c =>
    simp only [aDst] at h ⊢
    cases ha : isApp c with
    | none => rw [ha] at h; exact pure_mono h fun av h => putD_mono h hk
    | some p => rw [ha] at h; exact appW_mono h hk
  | _ => simp only [aDst] at h ⊢; exact pure_mono h fun av h => putD_mono h hk
theorem lendAt_mono {t off n : Nat} {st : Steps} {K K' : (Nat → AV) → List C → Prop} (h : lendAt F t off st n K) (hk : ∀ F' cs, K F' cs → K' F' cs) : lendAt F t off st n K' := by
  unfold lendAt at h ⊢
  split at h
  case h_2 => exact h.elim
  split at h
  · rename_i k bs _ _
    cases hb : Nat.ble (off + n) bs.length with
    | false => rw [hb] at h; exact h.elim
    | true =>
      rw [hb] at h
      simp only [cond_true, fc_eq] at h ⊢
      exact hk _ _ h
  · obtain ⟨r, j, h1, h2, h3, hK⟩ := Lq.out h
    refine .mk_ ?_
    exact ⟨r, j, _, _, h1, h2, h3, rfl, rfl, hk _ _ hK⟩
theorem lendP_mono : ∀ {xs : List (Operand × Nat)} {K K' : (Nat → AV) → List (MA × Plc) → Prop} {F : Nat → AV}, lendP xs K F → (∀ F' l, K F' l → K' F' l) → lendP xs K' F
  | [], K, K', F, h, hk => hk _ _ h
  | (x, 0) :: xs, K, K', F, h, hk => lendP_mono (xs := xs) h fun F' l h => hk _ _ h
  | (x, 1) :: xs, K, K', F, h, hk => by
    simp only [lendP] at h ⊢
    split at h
    case h_2 => exact h.elim
    split at h
    · exact lendAt_mono h fun F' cs h => lendP_mono h fun F'' l h => hk _ _ h
    · exact lendAt_mono h fun F' cs h => lendP_mono h fun F'' l h => hk _ _ h
    · exact lendAt_mono h fun F' cs h => lendP_mono h fun F'' l h => hk _ _ h
    · exact h.elim
  | (x, n + 2) :: xs, K, K', F, h, hk => by
    simp only [lendP] at h ⊢
    split at h
    case h_2 => exact h.elim
    split at h
    · split at h
      · exact lendP_mono h fun F'' l h => hk _ _ h
      · exact h.elim
    · exact lendP_mono h fun F'' l h => hk _ _ h
    · exact h.elim
theorem valsP_mono : ∀ {l : List (MA × Plc)} {xs : List Operand} {K K' : Bool → List MA → Prop}, valsP F l xs K → (∀ b A, K b A → K' b A) → valsP F l xs K'
  | [], [], K, K', h, hk => hk _ _ h
  | (m, .no) :: l, x :: xs, K, K', h, hk => by
    obtain ⟨ag, cs, h1, h2⟩ := valA_loc h
    refine h2 F (Agr.refl _ _) _ (valsP_mono h1 fun b A h => ?_)
    cases hn : noOwn cs with
    | true => rw [hn] at h; exact hk _ _ h
    | false => rw [hn] at h; exact hk _ _ h
  | (m, .at_ t off st) :: l, x :: xs, K, K', h, hk => valsP_mono (l := l) (xs := xs) h fun b A h => hk _ _ h
  | (m, .box t) :: l, x :: xs, K, K', h, hk => valsP_mono (l := l) (xs := xs) h fun b A h => hk _ _ h
  | [], _ :: _, K, K', h, hk => h.elim
  | (m, .no) :: l, [], K, K', h, hk => h.elim
  | (m, .at_ t off st) :: l, [], K, K', h, hk => h.elim
  | (m, .box t) :: l, [], K, K', h, hk => h.elim
theorem restA_mono {K K' : (Nat → AV) → Prop} (hk : ∀ F', K F' → K' F') : ∀ {l : List (MA × Plc)} {B : List MA} {F : Nat → AV}, restA l B K F → restA l B K' F
  | [], [], F, h => hk _ h
  | [], _ :: _, F, h => h.elim
  | (m, .no) :: l, [], F, h => h.elim
  | (m, .at_ t off st) :: l, [], F, h => h.elim
  | (m, .box t) :: l, [], F, h => h.elim
  | (m, .no) :: l, .val _ _ :: B, F, h => restA_mono hk (l := l) (B := B) h
  | (m, .no) :: l, .mut _ _ :: B, F, h => restA_mono hk (l := l) (B := B) h
  | (m, .no) :: l, .ptr _ :: B, F, h => restA_mono hk (l := l) (B := B) h
  | (m, .at_ t off st) :: l, .val _ _ :: B, F, h => h.elim
  | (m, .at_ t off st) :: l, .ptr _ :: B, F, h => h.elim
  | (m, .box t) :: l, .val _ _ :: B, F, h => h.elim
  | (m, .box t) :: l, .mut _ _ :: B, F, h => h.elim
  | (m, .at_ t off st) :: l, .mut ag out :: B, F, h => by
    simp only [restA] at h ⊢
    split at h
    case h_2 => exact h.elim
    split at h
    · rename_i k bs _ _
      cases hb : Nat.ble (off + out.length) bs.length with
      | false => rw [hb] at h; exact h.elim
      | true =>
        rw [hb] at h
        simp only [cond_true, fc_eq] at h ⊢
        exact restA_mono hk h
    · obtain ⟨r, j, e1, e2, e3, hK⟩ := Pu.out h
      exact Pu.mk e1 e2 e3 rfl (restA_mono hk hK)
  | (m, .box t) :: l, .ptr out :: B, F, h => by
    simp only [restA] at h ⊢
    split at h
    · exact restA_mono hk h
    · exact h.elim
theorem callM_mono {d : Option Nat} {f : Nat} {args : List Operand} {modes : List Nat} {K K' : (Nat → AV) → Prop} (h : aCallM P N F d f args modes K) (hk : ∀ F', K F' → K' F') : aCallM P N F d f args modes K' := by
  unfold aCallM at h ⊢
  refine lendP_mono h fun F' l h => ?_
  cases hb : (distP l && Nat.beq args.length modes.length) with
  | false => rw [hb] at h; exact h.elim
  | true =>
    rw [hb] at h
    refine valsP_mono h fun b A h => ?_
    obtain ⟨sh, B, k, rcs, h1, h2, h3⟩ := ClM.out h
    refine ClM.mk h1 h2 (restA_mono (fun F'' h => ?_) h3)
    cases d with
    | none => exact hk _ h
    | some d => exact putD_mono h hk
theorem putMap_mono {t off : Nat} {z : Int} {v : Value} {K K' : (Nat → AV) → Prop} (h : putMap F t off z v K) (hk : ∀ F', K F' → K' F') : putMap F t off z v K' := by
  unfold putMap at h ⊢
  cases hF : F t with
  | hold k bs =>
    rw [hF] at h
    simp only at h ⊢
    cases hc : bs[off]? with
    | none => rw [hc] at h; exact h.elim
    | some c =>
      rw [hc] at h
      cases c with
      | m es =>
        simp only at h ⊢
        have := h.out
        refine Mu.mk rfl ?_
        simp only [fc_eq] at this ⊢
        exact hk _ this
      | _ => exact h.elim
  | _ => rw [hF] at h; exact h.elim
theorem mapUpd_mono {T : Nat} {x y v : Operand} {K K' : (Nat → AV) → Prop} (h : aMapUpd TE F T x y v K) (hk : ∀ F', K F' → K' F') : aMapUpd TE F T x y v K' := by
  unfold aMapUpd at h ⊢
  split at h
  case h_2 => exact h.elim
  obtain ⟨z, h1, l1⟩ := scA_loc h
  refine l1 F (Agr.refl F _) _ ?_
  obtain ⟨z2, h2, l2⟩ := scA_loc h1
  refine l2 F (Agr.refl F _) _ ?_
  split at h2
  case h_2 => exact h2.elim
  split at h2
  case h_2 => exact h2.elim
  split at h2
  · exact putMap_mono h2 hk
  · exact putMap_mono h2 hk
  · exact h2.elim
theorem one_mono {o : Oper} {K K' : (Nat → AV) → Prop} (h : aOne P TE N ops o K F) (hk : ∀ F', K F' → K' F') : aOne P TE N ops o K' F := by
  unfold aOne at h ⊢
  refine guard_mono h (fun F h => ?_) (fun F h => ?_)
  · split at h
    · exact callM_mono h hk
    · split at h
      · split at h
        · exact store_mono h hk
        · exact mapUpd_mono h hk
        · exact h.elim
      · exact dst_mono h hk
  · split at h
    · exact hk _ h
    · exact putD_mono h hk
/-- The text's order. -/
theorem any_lex {m : Nat} (hok : DOk ops m) {K : (Nat → AV) → Prop} (hm : m ≤ ops.size) : ∀ (l : List Oper) (k : Nat) (listed : Array Bool) (F : Nat → AV), (∀ j, l[j]? = ops[k + j]?) → listed.size = ops.size → (∀ j, j < ops.size → listed.getD j true = decide (j < k)) → Clean ops m F listed →
    runD P TE N ops (m - k) l K F → anyA P TE N ops m K l.length listed F
  | [], k, listed, F, hl, hs, hli, _, hp => by
    have hk : ops.size ≤ k := by
      rcases Nat.lt_or_ge k ops.size with h | h
      · have := hl 0; simp [h] at this
      · exact h
    refine ⟨?_, ?_⟩
    · apply List.eq_nil_iff_forall_not_mem.2
      intro j hj
      obtain ⟨h1, o, ho, -⟩ := mem_ready.1 hj
      have hlt := (Array.getElem?_eq_some_iff.1 ho).1
      rw [hli j hlt] at h1
      simp at h1; omega
    · cases hmk : m - k with
      | zero => rw [hmk] at hp; exact hp
      | succ x => rw [hmk] at hp; exact hp
  | o :: l, k, listed, F, hl, hs, hli, hcl, hp => by
    have h0 : ops[k]? = some o := by simpa using (hl 0).symm
    have hk := (Array.getElem?_eq_some_iff.1 h0).1
    have hready : k ∈ Region.ready .any ops listed := mem_ready.2 ⟨by rw [hli k hk]; simp, o, h0, fun e he hb => by
      have := hok.back k o h0 e he hb
      have h1 := hli e.on (by omega)
      rw [show decide (e.on < k) = true by simpa using this] at h1
      have h2 : e.on < listed.size := by omega
      simp [h2] at h1 ⊢; exact h1⟩
    have hl' : ∀ j, l[j]? = ops[k + 1 + j]? := fun j => by have := hl (j + 1); simpa [Nat.add_assoc, Nat.add_comm 1 j] using this
    have hli' : ∀ j, j < ops.size → (listed.setIfInBounds k true).getD j true = decide (j < k + 1) := fun j hj => by
      by_cases hjk : j = k
      · subst hjk; simp [hs, hj]
      · rw [getD_set_ne true (Ne.symm hjk), hli j hj]
        simp only [decide_eq_decide]; omega
    show anyA P TE N ops m K (l.length + 1) listed F
    by_cases hkm : k < m
    · have e1 : m - k = (m - (k + 1)) + 1 := by omega
      rw [e1] at hp
      obtain ⟨d, av, hy, hp⟩ := oneP_spec (show aOneP P TE N ops o (runD P TE N ops (m - (k + 1)) l K) F from hp)
      refine any_first hok h0 hkm l.length listed F hready hcl hy (any_lex hok hm l (k + 1) _ _ hl' (by simpa using hs) hli' (hcl.put fun j' o' d' hm' hne' hj' hl'' hd' => ?_) hp)
      cases hu : av.uses d' with
      | false => rfl
      | true =>
        rcases hy.from_ d' hu with h | ⟨t, _, h⟩
        · have := hok.look j' k o' o d' hm' hkm hne' hj' h0 hd' h
          obtain ⟨e, he1, he2, he3⟩ := hasEdge_spec.1 this
          have hlt := hok.back k o h0 e he1 he2
          have hj'lt := (Array.getElem?_eq_some_iff.1 hj').1
          rw [hli j' hj'lt] at hl''
          simp at hl''; omega
        · rw [hcl j' o' d' hm' hj' hl'' hd' t] at h; cases h
    · refine ⟨fun h => (by rw [h] at hready; cases hready), fun j hj => ?_⟩
      have hjk : j = k := by
        obtain ⟨h1, oj, hoj, hall⟩ := mem_ready.1 hj
        have hjlt := (Array.getElem?_eq_some_iff.1 hoj).1
        rw [hli j hjlt] at h1
        simp at h1
        rcases Nat.lt_or_ge k j with hlt | hge
        · exfalso
          have := hok.tail j (by omega) hjlt k hlt
          rw [opAt_some hoj] at this
          obtain ⟨e, he1, he2, he3⟩ := hasEdge_spec.1 this
          have h2 := hall e he1 he2
          rw [he3] at h2
          have h3 := hli k hk
          have h4 : k < listed.size := by omega
          simp [h4] at h2 h3
          rw [h2] at h3; cases h3
        · omega
      subst hjk
      unfold stepA
      rw [h0]
      simp only [if_neg hkm]
      have e0 : m - j = 0 := by omega
      rw [e0] at hp
      have hp' : aOne P TE N ops o (runA P TE N ops l K) F := hp
      have hmono : ∀ F', runA P TE N ops l K F' → anyA P TE N ops m K l.length (listed.setIfInBounds j true) F' := fun F' hF' =>
        any_lex hok hm l (j + 1) _ F' hl' (by simpa using hs) hli' (fun j' o' d' hm' hj' hl'' hd' => by
          have hj'lt := (Array.getElem?_eq_some_iff.1 hj').1
          rw [hli' j' hj'lt] at hl''
          simp at hl''; omega) (by rw [show m - (j + 1) = 0 by omega]; cases l <;> exact hF')
      exact one_mono hp' hmono
theorem St.clr (h : St w0 M S0 N F a w) (ds : List Nat) : St w0 M S0 N (Ab.clr ds F) a w := by
  obtain ⟨S, φ, h⟩ := h
  refine ⟨S, φ, fun t => ?_, h.dis, h.disS, h.ex, h.sub, h.sup, h.old, h.size, h.defers, h.par⟩
  rw [clr_eq]
  cases hb : ds.any (fun d => (F t).uses d) with
  | true => trivial
  | false =>
    simp only [cond_false]
    refine (h.slot t).keep (φ := φ) (fun t _ _ _ => h.slot t) (fun t' _ => ⟨fun k cs he => ?_, rfl, fun _ _ _ => ⟨rfl, rfl⟩⟩) (fun _ _ _ => ⟨rfl, rfl⟩) (fun _ _ _ => ⟨rfl, rfl⟩) (fun _ _ h => h) (fun _ _ h => h)
    rw [clr_eq]
    have : ds.any (fun d => (F t').uses d) = false := by
      rw [he]
      induction ds with
      | nil => rfl
      | cons d ds ih => simp [AV.uses]
    rw [this]; exact he
/-- Drawn regions. -/
theorem draw_sound (hTE : ∀ t i, TE t = some i → TOk P t i) (hm : P.follows .mixedOrders = true) {id : Nat} {tb : List (Nat × Nat × List Nat)} (hok : drawOk tb id ops = true) {K : (Nat → AV) → Prop} {Q : Exit → Act → World → Prop} (hp : DD P TE N tb id ops K F) (hs : St w0 M S0 N F a w)
    (hq : ∀ F' a' w', K F' → St w0 M S0 N F' a' w' → Q .normal a' w') : (Code.region id ops true).wp P Q a w := by
  unfold drawOk at hok
  unfold DD at hp
  cases htb : lookTb tb id with
  | none => rw [htb] at hok; cases hok
  | some p =>
    obtain ⟨m, ds⟩ := p
    rw [htb] at hok hp
    simp only [Bool.and_eq_true] at hok hp
    obtain ⟨⟨hmle, hds⟩, hok⟩ := hok
    have hmle' : m ≤ ops.size := Nat.le_of_ble_eq_true hmle
    refine wp_region_any hm ?_
    have hs' : St w0 M S0 N (Ab.clr ds F) a { w with drawn := w.drawn + 1 } := by
      have h1 := hs.clr ds
      obtain ⟨S, φ, h⟩ := h1
      exact ⟨S, φ, h.more (w1 := { w with drawn := w.drawn + 1 }) (fun _ _ h => h) (fun _ _ h => .inl h) ⟨rfl, rfl, rfl, Nat.le_refl _, fun _ _ _ => rfl, fun _ _ _ _ => rfl, fun _ _ _ _ => rfl⟩⟩
    refine any_sound hTE (m := m) hq ops.size (Array.replicate ops.size false) _ a _ ?_ hs'
    have := any_lex (P := P) (TE := TE) (N := N) (drawOk_spec hok) (K := K) hmle' ops.toList 0 (Array.replicate ops.size false) (Ab.clr ds F) (by simp) (by simp) (fun j hj => by simp [hj]) (fun j o d hj ho _ hd t => ?_) hp
    · simpa using this
    · rw [clr_eq]
      cases hb : ds.any (fun d => (F t).uses d) with
      | true => rfl
      | false =>
        simp only [cond_false]
        cases hu : (F t).uses d with
        | false => rfl
        | true =>
          have h1 := below_spec hds hj
          rw [opAt_some ho, hd] at h1
          obtain ⟨d', hd', he⟩ := List.any_eq_true.1 h1
          have he' := Nat.eq_of_beq_eq_true he
          subst he'
          have : ds.any (fun d => (F t).uses d) = true := List.any_eq_true.2 ⟨d, hd', hu⟩
          rw [this] at hb; cases hb
end
end Go.Proofs.YthinjmmlpgjhnaaGreat.Ab
