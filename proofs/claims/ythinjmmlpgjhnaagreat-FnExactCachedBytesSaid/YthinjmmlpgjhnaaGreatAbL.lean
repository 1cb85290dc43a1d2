/- A slot-only operation looks at its operands alone: for regions that draw their order. No condition. -/
import Derived.Test.YthinjmmlpgjhnaaGreatAbH
namespace Go.Proofs.YthinjmmlpgjhnaaGreat.Ab
open Go.RowKit

def tm : Operand → List Nat
  | .tmp t => [t]
  | _ => []
/-- F' says of the slots ts, and of what they lead to, what F says. -/
def Agr (F F' : Nat → AV) (ts : List Nat) : Prop := ∀ t, t ∈ ts → F' t = F t ∧ ∀ t', (F t).uses t' = true → ∀ k cs, F t' = .hold k cs → F' t' = .hold k cs
theorem Agr.mono {F F' : Nat → AV} {ts ts' : List Nat} (h : Agr F F' ts) (hs : ∀ t, t ∈ ts' → t ∈ ts) : Agr F F' ts' := fun t ht => h t (hs t ht)
theorem Agr.ev {F F' : Nat → AV} {x : Operand} (h : Agr F F' (tm x)) : evA F' x = evA F x := by
  cases x with
  | tmp t => exact (h t (by simp [tm])).1
  | _ => rfl
/-- What av leads to, its operands did. -/
def From (F : Nat → AV) (ts : List Nat) (av : AV) : Prop := ∀ d, av.uses d = true → d ∈ ts ∨ ∃ t, t ∈ ts ∧ (F t).uses d = true
theorem From.hold (F : Nat → AV) (ts : List Nat) (k : Kd) (cs : List C) : From F ts (.hold k cs) := fun d h => by cases h
theorem From.iref (F : Nat → AV) (ts : List Nat) (r : List C) (o : Nat) : From F ts (.iref r o) := fun d h => by cases h
/-- p yields av, at F and wherever a frame says the same of the slots ts. -/
def Loc (p : (Nat → AV) → (AV → Prop) → Prop) (F : Nat → AV) (ts : List Nat) (K : AV → Prop) : Prop := ∃ av, K av ∧ From F ts av ∧ ∀ F', Agr F F' ts → ∀ K' : AV → Prop, K' av → p F' K'

section
variable {F : Nat → AV} {K : AV → Prop} {TE : Nat → Option TI} {P : Program}
theorem rowA_loc {t off : Nat} {st : Steps} {k : List C → Nat → Prop} (h : rowA F t off st k) : ∃ r j, k r j ∧ ∀ F' : Nat → AV, (∀ k cs, F t = .hold k cs → F' t = .hold k cs) → ∀ k' : List C → Nat → Prop, k' r j → rowA F' t off st k' := by
  obtain ⟨kd, cs, r, j, hF, hr, hk⟩ := rowA_spec h
  refine ⟨r, j, hk, fun F' hF' k' hk' => ?_⟩
  unfold rowA
  rw [hF' kd cs hF]
  cases st with
  | nil =>
    simp only [rowAt, Option.some.injEq, Prod.mk.injEq] at hr
    obtain ⟨rfl, rfl⟩ := hr
    exact hk'
  | cons s st => exact Rw.mk hr hk'
theorem constA_uses (v : Value) (d : Nat) : (constA v).uses d = false := by
  cases v with
  | agg arr =>
    simp only [constA]
    cases arr.all (·.oneCell') <;> rfl
  | pointer p => cases p <;> rfl
  | _ => rfl
theorem valA_loc {x : Operand} {k : Option Nat → List C → Prop} (h : valA F (evA F x) k) : ∃ ag cs, k ag cs ∧ ∀ F' : Nat → AV, Agr F F' (tm x) → ∀ k' : Option Nat → List C → Prop, k' ag cs → valA F' (evA F' x) k' := by
  cases hx : evA F x with
  | hold kd cs =>
    rw [hx] at h
    cases kd with
    | one => exact ⟨_, _, h, fun F' hF k' hk => by rw [hF.ev, hx]; exact hk⟩
    | agg => exact ⟨_, _, h, fun F' hF k' hk => by rw [hF.ev, hx]; exact hk⟩
    | _ => exact h.elim
  | bor t off st ag =>
    rw [hx] at h
    replace h : rowA F t off st fun r j => k ag (takeA r j (ag.getD 1)) := h
    obtain ⟨r, j, hk, hl⟩ := rowA_loc h
    refine ⟨_, _, hk, fun F' hF k' hk' => ?_⟩
    rw [hF.ev, hx]
    refine hl F' (fun kd cs hh => ?_) (fun r j => k' ag (takeA r j (ag.getD 1))) hk'
    cases x with
    | tmp t0 =>
      have hx' : F t0 = .bor t off st ag := hx
      exact (hF t0 (by simp [tm])).2 t (by rw [hx']; simp [AV.uses]) kd cs hh
    | const v =>
      have := constA_uses v t
      rw [show constA v = .bor t off st ag from hx] at this
      simp [AV.uses] at this
    | global g => cases hx
    | func f => cases hx
  | dead => rw [hx] at h; exact h.elim
  | ref => rw [hx] at h; exact h.elim
  | iref => rw [hx] at h; exact h.elim
  | fn => rw [hx] at h; exact h.elim
theorem scA_loc {x : Operand} {k : Value → Prop} (h : scA F x k) : ∃ z, k z ∧ ∀ F' : Nat → AV, Agr F F' (tm x) → ∀ k' : Value → Prop, k' z → scA F' x k' := by
  obtain ⟨ag, cs, hk, hl⟩ := valA_loc h
  match ag, cs, hk with
  | none, [.v z], hk => exact ⟨z, hk, fun F' hF k' hk' => hl F' hF _ hk'⟩
theorem move_same {F' : Nat → AV} {t : Nat} (h : F' t = F t) : aMove F' (.tmp t) K = aMove F (.tmp t) K := by simp only [aMove, h]
theorem move_loc {x : Operand} (h : aMove F x K) : Loc (fun F K => aMove F x K) F (tm x) K := by
  cases x with
  | tmp t =>
    have ht : t ∈ tm (.tmp t) := by simp [tm]
    have fin : ∀ av, K av → From F (tm (.tmp t)) av → (∀ K' : AV → Prop, K' av → aMove F (.tmp t) K') → Loc (fun F K => aMove F (.tmp t) K) F (tm (.tmp t)) K := fun av h1 h2 h3 =>
      ⟨av, h1, h2, fun F' hA K' hK => by
        show aMove F' (.tmp t) _
        rw [move_same (hA t ht).1]
        exact h3 K' hK⟩
    have loc : ∀ d, d = t → d ∈ tm (.tmp t) := fun d e => by subst e; exact ht
    cases hF : F t with
    | hold k cs =>
      cases k with
      | box =>
        have e : ∀ K', aMove F (.tmp t) K' = K' (.ref t 0 []) := fun K' => by simp only [aMove, hF]
        rw [e] at h
        exact fin _ h (fun d hd => .inl (loc d (by simp [AV.uses] at hd; exact hd.symm))) (fun K' hK => by rw [e]; exact hK)
      | one =>
        cases hn : noOwn cs with
        | true =>
          have e : ∀ K', aMove F (.tmp t) K' = K' (.hold .one cs) := fun K' => by simp only [aMove, hF, hn, cond_true]
          rw [e] at h
          exact fin _ h (From.hold _ _ _ _) (fun K' hK => by rw [e]; exact hK)
        | false =>
          have e : ∀ K', aMove F (.tmp t) K' = K' (.bor t 0 [] none) := fun K' => by simp only [aMove, hF, hn, cond_false]
          rw [e] at h
          exact fin _ h (fun d hd => .inl (loc d (by simp [AV.uses] at hd; exact hd.symm))) (fun K' hK => by rw [e]; exact hK)
      | agg =>
        cases hn : noOwn cs with
        | true =>
          have e : ∀ K', aMove F (.tmp t) K' = K' (.hold .agg cs) := fun K' => by simp only [aMove, hF, hn, cond_true]
          rw [e] at h
          exact fin _ h (From.hold _ _ _ _) (fun K' hK => by rw [e]; exact hK)
        | false =>
          have e : ∀ K', aMove F (.tmp t) K' = K' (.bor t 0 [] (some cs.length)) := fun K' => by simp only [aMove, hF, hn, cond_false]
          rw [e] at h
          exact fin _ h (fun d hd => .inl (loc d (by simp [AV.uses] at hd; exact hd.symm))) (fun K' hK => by rw [e]; exact hK)
      | tup sh => simp only [aMove, hF] at h
    | dead =>
      have e : ∀ K', aMove F (.tmp t) K' = K' .dead := fun K' => by simp only [aMove, hF]
      rw [e] at h
      exact fin _ h (fun d hd => by cases hd) (fun K' hK => by rw [e]; exact hK)
    | ref t' off st =>
      have e : ∀ K', aMove F (.tmp t) K' = K' (.ref t' off st) := fun K' => by simp only [aMove, hF]
      rw [e] at h
      exact fin _ h (fun d hd => .inr ⟨t, ht, by rw [hF]; exact hd⟩) (fun K' hK => by rw [e]; exact hK)
    | bor t' off st ag =>
      have e : ∀ K', aMove F (.tmp t) K' = K' (.bor t' off st ag) := fun K' => by simp only [aMove, hF]
      rw [e] at h
      exact fin _ h (fun d hd => .inr ⟨t, ht, by rw [hF]; exact hd⟩) (fun K' hK => by rw [e]; exact hK)
    | iref r off =>
      have e : ∀ K', aMove F (.tmp t) K' = K' (.iref r off) := fun K' => by simp only [aMove, hF]
      rw [e] at h
      exact fin _ h (fun d hd => by cases hd) (fun K' hK => by rw [e]; exact hK)
    | fn f caps =>
      have e : ∀ K', aMove F (.tmp t) K' = K' (.fn f caps) := fun K' => by simp only [aMove, hF]
      rw [e] at h
      exact fin _ h (fun d hd => .inr ⟨t, ht, by rw [hF]; exact hd⟩) (fun K' hK => by rw [e]; exact hK)
  | const v =>
    refine ⟨_, h, fun d hd => ?_, fun F' _ K' hK => hK⟩
    have := constA_uses v d
    rw [show (constA v).uses d = true from hd] at this
    cases this
  | global g => exact ⟨_, h, (fun d hd => by cases hd), fun F' _ K' hK => hK⟩
  | func f => exact ⟨_, h, (fun d hd => by cases hd), fun F' _ K' hK => hK⟩
theorem ldA_loc {i : TI} {t off : Nat} {st : Steps} {ts : List Nat} (ht : t ∈ ts ∨ ∃ t0, t0 ∈ ts ∧ (F t0).uses t = true) (h : ldA F i t off st K) :
    ∃ av, K av ∧ From F ts av ∧ ∀ F' : Nat → AV, (∀ k cs, F t = .hold k cs → F' t = .hold k cs) → ∀ K' : AV → Prop, K' av → ldA F' i t off st K' := by
  obtain ⟨r, j, hk, hl⟩ := rowA_loc h
  cases hb : Nat.beq (takeA r j i.size).length i.size with
  | false => rw [hb] at hk; exact hk.elim
  | true =>
    rw [hb] at hk
    simp only [cond_true] at hk
    cases hn : noOwn (takeA r j i.size) with
    | true => rw [hn] at hk; exact ⟨_, hk, From.hold _ _ _ _, fun F' hF K' hK => hl F' hF _ (by rw [hb, hn]; exact hK)⟩
    | false => rw [hn] at hk; exact ⟨_, hk, fun d hd => by simp [AV.uses] at hd; subst hd; exact ht, fun F' hF K' hK => hl F' hF _ (by rw [hb, hn]; exact hK)⟩
theorem load_loc {T : Nat} {x : Operand} (h : aLoad TE F T x K) : Loc (fun F K => aLoad TE F T x K) F (tm x) K := by
  unfold aLoad at h
  cases hT : TE T with
  | none => rw [hT] at h; exact h.elim
  | some i =>
    rw [hT] at h
    simp only at h
    cases ha : (i.agg || Nat.beq i.size 1) with
    | false => rw [ha] at h; exact h.elim
    | true =>
      rw [ha] at h
      simp only [cond_true] at h
      cases x with
      | tmp t =>
        have ht : t ∈ tm (.tmp t) := by simp [tm]
        simp only at h
        have same : ∀ {F'}, Agr F F' (tm (.tmp t)) → F' t = F t := fun hF => (hF t ht).1
        have unf : ∀ {F'} {K' : AV → Prop}, Agr F F' (tm (.tmp t)) → (match F t with | .hold .box _ => ldA F' i t 0 [] K' | .ref t off st => ldA F' i t off st K' | .iref r off => bif Nat.beq (takeA r off i.size).length i.size then K' (.hold (kdOf (agOf i)) (takeA r off i.size)) else False | _ => False) → aLoad TE F' T (.tmp t) K' := fun hA hh => by
          unfold aLoad
          rw [hT]
          simp only [ha, cond_true]
          rw [same hA]
          exact hh
        cases hF : F t with
        | hold k cs =>
          rw [hF] at h
          cases k with
          | box =>
            obtain ⟨av, h1, h2, h3⟩ := ldA_loc (ts := tm (.tmp t)) (.inl ht) h
            exact ⟨av, h1, h2, fun F' hA K' hK => unf hA (by rw [hF]; exact h3 F' (fun k cs hh => (same hA).trans hh) K' hK)⟩
          | _ => exact h.elim
        | ref t' off st =>
          rw [hF] at h
          have hu : (F t).uses t' = true := by rw [hF]; simp [AV.uses]
          obtain ⟨av, h1, h2, h3⟩ := ldA_loc (ts := tm (.tmp t)) (.inr ⟨t, ht, hu⟩) h
          exact ⟨av, h1, h2, fun F' hA K' hK => unf hA (by rw [hF]; exact h3 F' (fun k cs hh => (hA t ht).2 t' hu k cs hh) K' hK)⟩
        | iref r off =>
          rw [hF] at h
          simp only at h
          cases hb : Nat.beq (takeA r off i.size).length i.size with
          | false => rw [hb] at h; exact h.elim
          | true =>
            rw [hb] at h
            exact ⟨_, h, From.hold _ _ _ _, fun F' hA K' hK => unf hA (by rw [hF]; simp only [hb, cond_true]; exact hK)⟩
        | dead => rw [hF] at h; exact h.elim
        | bor => rw [hF] at h; exact h.elim
        | fn => rw [hF] at h; exact h.elim
      | _ => exact h.elim
theorem ptrAdd_loc {x : Operand} {o : Nat} (h : ptrAdd F x o K) : Loc (fun F K => ptrAdd F x o K) F (tm x) K := by
  cases x with
  | tmp t =>
    have ht : t ∈ tm (.tmp t) := by simp [tm]
    simp only [ptrAdd] at h
    cases hF : F t with
    | hold k cs =>
      rw [hF] at h
      cases k with
      | box => exact ⟨_, h, fun d hd => .inl (by simp [AV.uses] at hd; subst hd; exact ht), fun F' hA K' hK => by simp only [ptrAdd, (hA t ht).1, hF]; exact hK⟩
      | _ => exact h.elim
    | ref t' off st => rw [hF] at h; exact ⟨_, h, fun d hd => .inr ⟨t, ht, by rw [hF]; exact hd⟩, fun F' hA K' hK => by simp only [ptrAdd, (hA t ht).1, hF]; exact hK⟩
    | iref r off => rw [hF] at h; exact ⟨_, h, From.iref _ _ _ _, fun F' hA K' hK => by simp only [ptrAdd, (hA t ht).1, hF]; exact hK⟩
    | dead => rw [hF] at h; exact h.elim
    | bor => rw [hF] at h; exact h.elim
    | fn => rw [hF] at h; exact h.elim
  | _ => exact h.elim
theorem fieldAddr_loc {T : Nat} {x : Operand} {f : Nat} (h : aFieldAddr TE F T x f K) : Loc (fun F K => aFieldAddr TE F T x f K) F (tm x) K := by
  unfold aFieldAddr at h
  unfold Loc aFieldAddr
  split at h
  case h_2 => exact h.elim
  split at h
  case h_2 => exact h.elim
  rename_i o ft _
  split at h
  case h_2 => exact h.elim
  rename_i fi _
  cases h0 : Nat.beq fi.size 0 with
  | true => rw [h0] at h; exact h.elim
  | false =>
    rw [h0] at h
    simp only [cond_false] at h ⊢
    exact ptrAdd_loc h
theorem idxA_sel {size t off : Nat} {st : Steps} {c : C} {i : Int} {ts : List Nat} (ht : t ∈ ts ∨ ∃ t0, t0 ∈ ts ∧ (F t0).uses t = true) (h : idxA size t off st c i K) : ∃ av, K av ∧ From F ts av ∧ ∀ K' : AV → Prop, K' av → idxA size t off st c i K' := by
  cases c with
  | s o rows =>
    obtain ⟨h0, r, hr, hk⟩ := Ix.out h
    cases hb : Nat.beq r.length size with
    | false => rw [hb] at hk; exact hk.elim
    | true =>
      rw [hb] at hk
      simp only [cond_true] at hk
      cases hm : o.mine with
      | true => rw [hm] at hk; exact ⟨_, hk, fun d hd => by simp [AV.uses] at hd; subst hd; exact ht, fun K' hK => Ix.mk h0 hr (by rw [hb, hm]; exact hK)⟩
      | false => rw [hm] at hk; exact ⟨_, hk, From.iref _ _ _ _, fun K' hK => Ix.mk h0 hr (by rw [hb, hm]; exact hK)⟩
  | _ => exact h.elim
theorem sliceIx_loc {size : Nat} {x : Operand} {i : Int} (h : sliceIx F size x i K) : Loc (fun F K => sliceIx F size x i K) F (tm x) K := by
  cases x with
  | tmp t =>
    have ht : t ∈ tm (.tmp t) := by simp [tm]
    simp only [sliceIx] at h
    cases hF : F t with
    | hold k0 cs =>
      rw [hF] at h
      cases k0 with
      | one =>
        match cs, h, hF with
        | [c], h, hF =>
          obtain ⟨av, h1, h2, h3⟩ := idxA_sel (ts := tm (.tmp t)) (.inl ht) h
          exact ⟨av, h1, h2, fun F' hA K' hK => by simp only [sliceIx, (hA t ht).1, hF]; exact h3 K' hK⟩
      | _ => exact h.elim
    | bor t' off st ag =>
      rw [hF] at h
      cases ag with
      | none =>
        replace h : rowA F t' off st fun r j => match r[j]? with | some c => idxA size t' off st c i K | none => False := h
        obtain ⟨r, j, hk, hrl⟩ := rowA_loc h
        have hu : (F t).uses t' = true := by rw [hF]; simp [AV.uses]
        cases hc : r[j]? with
        | none => rw [hc] at hk; exact hk.elim
        | some c =>
          rw [hc] at hk
          obtain ⟨av, h1, h2, h3⟩ := idxA_sel (ts := tm (.tmp t)) (.inr ⟨t, ht, hu⟩) hk
          exact ⟨av, h1, h2, fun F' hA K' hK => by simp only [sliceIx, (hA t ht).1, hF]; exact hrl F' (fun k cs hh => (hA t ht).2 t' hu k cs hh) _ (by rw [hc]; exact h3 K' hK)⟩
      | some n => exact h.elim
    | dead => rw [hF] at h; exact h.elim
    | ref => rw [hF] at h; exact h.elim
    | iref => rw [hF] at h; exact h.elim
    | fn => rw [hF] at h; exact h.elim
  | _ => exact h.elim
theorem indexAddr_loc {T : Nat} {x y : Operand} (h : aIndexAddr TE F T x y K) : Loc (fun F K => aIndexAddr TE F T x y K) F (tm x ++ tm y) K := by
  unfold aIndexAddr at h
  unfold Loc aIndexAddr
  split at h
  case h_2 => exact h.elim
  split at h
  case h_2 => exact h.elim
  rename_i ei hei
  obtain ⟨z, hz, hl⟩ := scA_loc h
  cases z with
  | int kk i =>
    obtain ⟨av, h1, h2, h3⟩ := sliceIx_loc hz
    refine ⟨av, h1, fun d hd => (h2 d hd).imp (fun h => by simp [h]) (fun ⟨t, ht, hu⟩ => ⟨t, by simp [ht], hu⟩), fun F' hA K' hK => ?_⟩
    exact hl F' (hA.mono (by simp +contextual)) _ (h3 F' (hA.mono (by simp +contextual)) K' hK)
  | _ => exact hz.elim
end
end Go.Proofs.YthinjmmlpgjhnaaGreat.Ab
