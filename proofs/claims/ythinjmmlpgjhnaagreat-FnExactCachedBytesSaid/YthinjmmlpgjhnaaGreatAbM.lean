/- A slot-only operation looks at its operands alone (the rest), and: a region that draws its order may be run in the text's. No condition. -/
import Derived.Test.YthinjmmlpgjhnaaGreatAbL
import Derived.Test.YthinjmmlpgjhnaaGreatAbY
namespace Go.Proofs.YthinjmmlpgjhnaaGreat.Ab
open Go.RowKit

section
variable {F : Nat → AV} {K : AV → Prop} {TE : Nat → Option TI} {P : Program}
theorem binA_mono {op : BinOp} {x y : Value} {K K' : Value → Prop} (h : binA op x y K) (hk : ∀ v, K v → K' v) : binA op x y K' := by
  cases x <;> cases y <;> try exact h.elim
  rename_i k a k' b
  have sk : ∀ {X Y : Prop}, (bif sameK k k' then X else False) → (X → Y) → (bif sameK k k' then Y else False) := fun {X Y} h hxy => by
    cases hs : sameK k k' with
    | true => rw [hs] at h; exact hxy h
    | false => rw [hs] at h; exact h.elim
  have wr : ∀ {k : IntKind} {x : Int}, Wr k x (fun z => K (.int k z)) → Wr k x (fun z => K' (.int k z)) := fun h => by
    obtain ⟨z, h1, h2⟩ := h.out
    exact Wr.mk h1 (hk _ h2)
  have ev : ∀ {k : IntKind} {x : Int}, Ev x (fun z => K (.int k z)) → Ev x (fun z => K' (.int k z)) := fun h => by
    obtain ⟨z, h1, h2⟩ := h.out
    exact Ev.mk h1 (hk _ h2)
  have cd : ∀ {p X Y : Prop}, Cd p X → (X → Y) → Cd p Y := fun h hxy => Cd.mk h.out.1 (hxy h.out.2)
  cases op <;> simp only [binA] at h ⊢
  case add => exact sk h wr
  case sub => exact sk h wr
  case mul => exact sk h wr
  case quo => exact sk h fun h => cd h wr
  case rem => exact sk h fun h => cd h ev
  case and => exact sk h wr
  case or => exact sk h wr
  case xor => exact sk h wr
  case andNot => exact sk h wr
  case shl => exact cd h wr
  case shr => exact cd h ev
  all_goals exact sk h (hk _)
theorem binA_sel {op : BinOp} {x y : Value} {K : Value → Prop} (h : binA op x y K) : ∃ v, K v ∧ binA op x y (· = v) := by
  cases x <;> cases y <;> try exact h.elim
  rename_i k a k' b
  have sk : ∀ {X : Prop}, (bif sameK k k' then X else False) → X ∧ ∀ Y : Prop, Y → (bif sameK k k' then Y else False) := fun {X} h => by
    cases hs : sameK k k' with
    | true => rw [hs] at h; exact ⟨h, fun Y hY => hY⟩
    | false => rw [hs] at h; exact h.elim
  cases op <;> simp only [binA] at h ⊢
  case add => obtain ⟨h, b⟩ := sk h; obtain ⟨z, h1, h2⟩ := h.out; exact ⟨_, h2, b _ (Wr.mk h1 rfl)⟩
  case sub => obtain ⟨h, b⟩ := sk h; obtain ⟨z, h1, h2⟩ := h.out; exact ⟨_, h2, b _ (Wr.mk h1 rfl)⟩
  case mul => obtain ⟨h, b⟩ := sk h; obtain ⟨z, h1, h2⟩ := h.out; exact ⟨_, h2, b _ (Wr.mk h1 rfl)⟩
  case quo => obtain ⟨h, b⟩ := sk h; obtain ⟨z, h1, h2⟩ := h.out.2.out; exact ⟨_, h2, b _ (Cd.mk h.out.1 (Wr.mk h1 rfl))⟩
  case rem => obtain ⟨h, b⟩ := sk h; obtain ⟨z, h1, h2⟩ := h.out.2.out; exact ⟨_, h2, b _ (Cd.mk h.out.1 (Ev.mk h1 rfl))⟩
  case and => obtain ⟨h, b⟩ := sk h; obtain ⟨z, h1, h2⟩ := h.out; exact ⟨_, h2, b _ (Wr.mk h1 rfl)⟩
  case or => obtain ⟨h, b⟩ := sk h; obtain ⟨z, h1, h2⟩ := h.out; exact ⟨_, h2, b _ (Wr.mk h1 rfl)⟩
  case xor => obtain ⟨h, b⟩ := sk h; obtain ⟨z, h1, h2⟩ := h.out; exact ⟨_, h2, b _ (Wr.mk h1 rfl)⟩
  case andNot => obtain ⟨h, b⟩ := sk h; obtain ⟨z, h1, h2⟩ := h.out; exact ⟨_, h2, b _ (Wr.mk h1 rfl)⟩
  case shl => obtain ⟨z, h1, h2⟩ := h.out.2.out; exact ⟨_, h2, Cd.mk h.out.1 (Wr.mk h1 rfl)⟩
  case shr => obtain ⟨z, h1, h2⟩ := h.out.2.out; exact ⟨_, h2, Cd.mk h.out.1 (Ev.mk h1 rfl)⟩
  all_goals (obtain ⟨h, b⟩ := sk h; exact ⟨_, h, b _ rfl⟩)
theorem binT_sel {op : BinOp} {T : Nat} {x y : Value} {K : Value → Prop} (h : binT TE op T x y K) : ∃ v, K v ∧ ∀ K' : Value → Prop, K' v → binT TE op T x y K' := by
  unfold binT at h
  split at h
  · split at h
    case h_2 => exact h.elim
    rename_i hT
    cases op <;> simp only at h <;> try exact h.elim
    all_goals exact ⟨_, h, fun K' hK => by unfold binT; simp only [hT]; exact hK⟩
  · cases op <;> simp only at h <;> try exact h.elim
    case add => obtain ⟨h1, h2⟩ := h.out; obtain ⟨z, h3, h4⟩ := h2.out; exact ⟨_, h4, fun K' hK => Cd.mk h1 (Es.mk h3 hK)⟩
    all_goals exact ⟨_, h, fun K' hK => hK⟩
  · rename_i h1 h2
    obtain ⟨v, hv, hs⟩ := binA_sel h
    refine ⟨v, hv, fun K' hK => ?_⟩
    have := binA_mono (K' := K') hs fun v' e => by rw [e]; exact hK
    unfold binT
    split
    · exact (h1 _ _ rfl rfl).elim
    · exact (h2 _ _ rfl rfl).elim
    · exact this
theorem unA_mono {op : UnOp} {x : Value} {K K' : Value → Prop} (h : unA op x K) (hk : ∀ v, K v → K' v) : unA op x K' := by
  unfold unA at h ⊢
  split at h
  · exact hk _ h
  · obtain ⟨z, h1, h2⟩ := Wr.out h; exact Wr.mk h1 (hk _ h2)
  · exact h.elim
theorem unA_sel {op : UnOp} {x : Value} {K : Value → Prop} (h : unA op x K) : ∃ v, K v ∧ unA op x (· = v) := by
  unfold unA at h
  split at h
  · exact ⟨_, h, rfl⟩
  · obtain ⟨z, h1, h2⟩ := Wr.out h; exact ⟨_, h2, Wr.mk h1 rfl⟩
  · exact h.elim
theorem pick_loc {c x y : Operand} (h : aPick F c x y K) : Loc (fun F K => aPick F c x y K) F (tm c ++ tm x ++ tm y) K := by
  obtain ⟨z, hz, hl⟩ := scA_loc h
  cases z with
  | bool b =>
    cases b with
    | true =>
      obtain ⟨av, h1, h2, h3⟩ := move_loc (Bf.out hz)
      refine ⟨av, h1, fun d hd => (h2 d hd).imp (fun h => by simp [h]) (fun ⟨t, ht, hu⟩ => ⟨t, by simp [ht], hu⟩), fun F' hA K' hK => hl F' (hA.mono (by simp +contextual)) _ (Bf.in_ (h3 F' (hA.mono (by simp +contextual)) K' hK))⟩
    | false =>
      obtain ⟨av, h1, h2, h3⟩ := move_loc (Bf.out hz)
      refine ⟨av, h1, fun d hd => (h2 d hd).imp (fun h => by simp [h]) (fun ⟨t, ht, hu⟩ => ⟨t, by simp [ht], hu⟩), fun F' hA K' hK => hl F' (hA.mono (by simp +contextual)) _ (Bf.in_ (h3 F' (hA.mono (by simp +contextual)) K' hK))⟩
  | _ => exact hz.elim
theorem box_loc {x : Operand} (h : aBox F x K) : Loc (fun F K => aBox F x K) F (tm x) K := by
  obtain ⟨ag, cs, hk, hl⟩ := valA_loc h
  cases hn : noOwn cs with
  | false => rw [hn] at hk; exact hk.elim
  | true => rw [hn] at hk; exact ⟨_, hk, From.hold _ _ _ _, fun F' hA K' hK => hl F' hA _ (by rw [hn]; exact hK)⟩
theorem extract_loc {x : Operand} {i : Nat} (h : aExtract F x i K) : Loc (fun F K => aExtract F x i K) F (tm x) K := by
  cases x with
  | tmp t =>
    have ht : t ∈ tm (.tmp t) := by simp [tm]
    simp only [aExtract] at h
    cases hF : F t with
    | hold k cs =>
      rw [hF] at h
      cases k with
      | tup sh =>
        simp only at h
        cases hs : shAt sh i with
        | none => rw [hs] at h; exact h.elim
        | some p =>
          rw [hs] at h
          simp only at h
          cases hn : noOwn (takeA cs p.1 (p.2.getD 1)) with
          | true => rw [hn] at h; exact ⟨_, h, From.hold _ _ _ _, fun F' hA K' hK => by simp only [aExtract, (hA t ht).1, hF, hs, hn, cond_true]; exact hK⟩
          | false => rw [hn] at h; exact ⟨_, h, fun d hd => .inl (by simp [AV.uses] at hd; subst hd; exact ht), fun F' hA K' hK => by simp only [aExtract, (hA t ht).1, hF, hs, hn, cond_false]; exact hK⟩
      | _ => exact h.elim
    | _ => rw [hF] at h; exact h.elim
  | _ => exact h.elim
theorem len_loc {T : Nat} {x : Operand} (h : aLen TE F T x K) : Loc (fun F K => aLen TE F T x K) F (tm x) K := by
  unfold aLen at h
  unfold Loc aLen
  split at h
  · obtain ⟨ag, cs, hk, hl⟩ := valA_loc h
    match ag, cs, hk with
    | none, [.s o rows], hk => exact ⟨_, Ln.out hk, From.hold _ _ _ _, fun F' hA K' hK => hl F' hA _ (Ln.mk rfl hK)⟩
    | none, [.z], hk => exact ⟨_, hk, From.hold _ _ _ _, fun F' hA K' hK => hl F' hA _ hK⟩
  · obtain ⟨z, hk, hl⟩ := scA_loc h
    cases z with
    | string s => exact ⟨_, Ln.out hk, From.hold _ _ _ _, fun F' hA K' hK => hl F' hA _ (Ln.mk rfl hK)⟩
    | _ => exact hk.elim
  · exact h.elim
def tms (xs : List Operand) : List Nat := xs.flatMap tm
theorem args_loc : ∀ {xs : List Operand} {k : Bool → List RA → Prop}, argsA F xs k → ∃ b A, k b A ∧ ∀ F' : Nat → AV, Agr F F' (tms xs) → ∀ k' : Bool → List RA → Prop, k' b A → argsA F' xs k'
  | [], k, h => ⟨true, [], h, fun _ _ _ h => h⟩
  | x :: xs, k, h => by
    obtain ⟨ag, cs, hk, hl⟩ := valA_loc h
    obtain ⟨b, A, hk, hl2⟩ := args_loc hk
    have s1 : ∀ {F' : Nat → AV}, Agr F F' (tms (x :: xs)) → Agr F F' (tm x) := fun hA => hA.mono (by simp +contextual [tms])
    have s2 : ∀ {F' : Nat → AV}, Agr F F' (tms (x :: xs)) → Agr F F' (tms xs) := fun hA => hA.mono (fun t ht => by simp only [tms, List.flatMap_cons, List.mem_append]; exact .inr ht)
    cases hn : noOwn cs with
    | true =>
      rw [hn] at hk
      exact ⟨b, _, hk, fun F' hA k' hk' => hl F' (s1 hA) _ (hl2 F' (s2 hA) _ (by rw [hn]; exact hk'))⟩
    | false =>
      rw [hn] at hk
      exact ⟨false, _, hk, fun F' hA k' hk' => hl F' (s1 hA) _ (hl2 F' (s2 hA) _ (by rw [hn]; exact hk'))⟩
theorem call_loc {f : Nat} {xs : List Operand} (h : aCall P F f xs K) : Loc (fun F K => aCall P F f xs K) F (tms xs) K := by
  obtain ⟨b, A, hcl, hl⟩ := args_loc h
  obtain ⟨sh, k, rcs, h1, h2, h3⟩ := hcl.out
  exact ⟨_, h3, From.hold _ _ _ _, fun F' hA K' hK => hl F' hA _ (by refine .mk_ ?_; exact ⟨sh, k, rcs, h1, h2, hK⟩)⟩

theorem elT_sel {T : Nat} {k : Nat → TI → Prop} (h : elT TE T k) : ∃ e ie, k e ie ∧ ∀ k' : Nat → TI → Prop, k' e ie → elT TE T k' := by
  unfold elT at h
  split at h
  case h_2 => exact h.elim
  rename_i e hT
  split at h
  case h_2 => exact h.elim
  rename_i ie he
  cases hb : (Nat.beq ie.zero.length ie.size && Nat.ble 1 ie.size) with
  | false => rw [hb] at h; exact h.elim
  | true => rw [hb] at h; exact ⟨e, ie, h, fun k' hk => by unfold elT; simp only [hT, he, hb, cond_true]; exact hk⟩
theorem int_loc {x : Operand} {k : Int → Prop} (h : intA F x k) : ∃ n, k n ∧ ∀ F' : Nat → AV, Agr F F' (tm x) → ∀ k' : Int → Prop, k' n → intA F' x k' := by
  obtain ⟨z, hz, hl⟩ := scA_loc h
  cases z with
  | int kk n => exact ⟨n, hz, fun F' hA k' hk => hl F' hA _ hk⟩
  | _ => exact hz.elim
def otm (x : Option Operand) : List Nat := x.toList.flatMap tm
theorem bnd_loc {x : Option Operand} {k : Option Int → Prop} (h : bndA F x k) : ∃ n, k n ∧ ∀ F' : Nat → AV, Agr F F' (otm x) → ∀ k' : Option Int → Prop, k' n → bndA F' x k' := by
  cases x with
  | none => exact ⟨none, h, fun _ _ _ hk => hk⟩
  | some x =>
    obtain ⟨n, hn, hl⟩ := int_loc h
    exact ⟨some n, hn, fun F' hA k' hk => hl F' (hA.mono (by simp +contextual [otm])) _ hk⟩
theorem fillP_loc {pl : Nat → Option (Nat × Nat)} : ∀ {parts : List (Nat × Operand)} {cs : List C} {k : List C → Prop}, fillP F pl parts cs k → ∃ cs', k cs' ∧ ∀ F' : Nat → AV, Agr F F' (tms (parts.map (·.2))) → ∀ k' : List C → Prop, k' cs' → fillP F' pl parts cs k'
  | [], cs, k, h => ⟨cs, h, fun _ _ _ h => h⟩
  | p :: rest, cs, k, h => by
    simp only [fillP] at h
    split at h
    case h_2 => exact h.elim
    rename_i q hq
    obtain ⟨ag, xs, hk, hl⟩ := valA_loc h
    cases hb : (noOwn xs && Nat.beq xs.length q.2 && Nat.ble (q.1 + q.2) cs.length) with
    | false => rw [hb] at hk; exact hk.elim
    | true =>
      rw [hb] at hk
      simp only [cond_true, fc_eq] at hk
      obtain ⟨cs', hk', hl'⟩ := fillP_loc hk
      refine ⟨cs', hk', fun F' hA k' hk2 => ?_⟩
      simp only [fillP, hq]
      refine hl F' (hA.mono (by simp +contextual [tms])) _ ?_
      rw [hb]
      simp only [cond_true, fc_eq]
      exact hl' F' (hA.mono (fun t ht => by simp only [tms, List.map_cons, List.flatMap_cons, List.mem_append]; exact .inr ht)) _ hk2
theorem build_loc {T : Nat} {parts : List (Nat × Operand)} (h : aBuild TE F T parts K) : Loc (fun F K => aBuild TE F T parts K) F (tms (parts.map (·.2))) K := by
  unfold aBuild at h
  unfold Loc aBuild
  split at h
  case h_2 => exact h.elim
  rename_i size bytes zero flds hT
  cases ha : allT TE flds with
  | false => rw [ha] at h; exact h.elim
  | true =>
    rw [ha] at h
    obtain ⟨cs', hk, hl⟩ := fillP_loc h
    exact ⟨_, hk, From.hold _ _ _ _, fun F' hA K' hK => by simp only [cond_true]; exact hl F' hA _ hK⟩
theorem buildS_loc {T n : Nat} {parts : List (Nat × Operand)} (h : aBuildS TE F T n parts K) : Loc (fun F K => aBuildS TE F T n parts K) F (tms (parts.map (·.2))) K := by
  obtain ⟨e, ie, hk, hs⟩ := elT_sel h
  cases hb : Nat.ble (n * ie.size) 16777216 with
  | false => rw [hb] at hk; exact hk.elim
  | true =>
    rw [hb] at hk
    simp only [cond_true] at hk
    split at hk
    · exact ⟨_, hk, From.hold _ _ _ _, fun F' hA K' hK => hs _ (by rw [hb]; exact hK)⟩
    · rw [fc_eq] at hk
      obtain ⟨cs', hk', hl⟩ := fillP_loc hk
      rw [chA_eq] at hk'
      exact ⟨_, hk', From.hold _ _ _ _, fun F' hA K' hK => hs _ (by rw [hb]; simp only [cond_true, fc_eq]; exact hl F' hA _ (by rw [chA_eq]; exact hK))⟩
    · exact hk.elim
theorem appP_loc {T : Nat} {x y : Operand} (h : aAppP TE F T x y K) : Loc (fun F K => aAppP TE F T x y K) F (tm x ++ tm y) K := by
  obtain ⟨e, ie, hk, hs⟩ := elT_sel h
  obtain ⟨ag, cs, hk, hl⟩ := valA_loc hk
  match ag, cs, hk with
  | none, [.z], hk =>
    obtain ⟨ag2, cs2, hk, hl2⟩ := valA_loc hk
    match ag2, cs2, hk with
    | none, [.s o rows], hk =>
      obtain ⟨h1, h2, h3, hk⟩ := hk.out
      exact ⟨_, hk, From.hold _ _ _ _, fun F' hA K' hK => hs _ (hl F' (hA.mono (by simp +contextual)) _ (hl2 F' (hA.mono (by simp +contextual)) _ (Fl.mk h1 h2 h3 hK)))⟩
    | none, [.z], hk =>
      exact ⟨_, hk, From.hold _ _ _ _, fun F' hA K' hK => hs _ (hl F' (hA.mono (by simp +contextual)) _ (hl2 F' (hA.mono (by simp +contextual)) _ hK))⟩
theorem make_loc {T : Nat} {x y : Operand} (h : aMake TE F T x y K) : Loc (fun F K => aMake TE F T x y K) F (tm x ++ tm y) K := by
  obtain ⟨e, ie, hk, hs⟩ := elT_sel h
  obtain ⟨l, hk, hl⟩ := int_loc hk
  obtain ⟨c, hk, hl2⟩ := int_loc hk
  obtain ⟨n, h1, h2, h3, h4, hk⟩ := hk.out
  exact ⟨_, hk, From.hold _ _ _ _, fun F' hA K' hK => hs _ (hl F' (hA.mono (by simp +contextual)) _ (hl2 F' (hA.mono (by simp +contextual)) _ (Mk.mk n h1 h2 h3 h4 rfl hK)))⟩
theorem look_loc {T : Nat} {x y : Operand} {ok : Bool} (h : aLook TE F T x y ok K) : Loc (fun F K => aLook TE F T x y ok K) F (tm x ++ tm y) K := by
  unfold aLook at h
  split at h
  case h_2 => exact h.elim
  rename_i hT
  cases ok with
  | true => exact h.elim
  | false =>
    simp only [cond_false] at h
    obtain ⟨ag, cs, hK, hl⟩ := valA_loc h
    match ag, cs, hK, hl with
    | none, [.m es], hK, hl =>
      obtain ⟨v, hv, hl2⟩ := scA_loc hK
      match v, hv, hl2 with
      | .int .i64 z, hv, hl2 =>
        refine ⟨_, hv.out, From.hold _ _ _ _, fun F' hA K' hK' => ?_⟩
        simp only [aLook, hT, cond_false]
        exact hl F' (hA.mono (by simp +contextual)) _ (hl2 F' (hA.mono (by simp +contextual)) _ (Ml.mk rfl hK'))
theorem slice_loc {T : Nat} {x : Operand} {lo hi : Option Operand} (h : aSlice TE F T x lo hi K) : Loc (fun F K => aSlice TE F T x lo hi K) F (tm x ++ otm lo ++ otm hi) K := by
  obtain ⟨e, ie, hk, hs⟩ := elT_sel h
  obtain ⟨l, hk, hl⟩ := bnd_loc hk
  obtain ⟨r, hk, hl2⟩ := bnd_loc hk
  obtain ⟨ag, cs, hk, hl3⟩ := valA_loc hk
  have back : ∀ (rows : List (List C)) (k : List (List C) → Prop), Sl rows ie.size l r k → ∃ rows', k rows' ∧ ∀ k' : List (List C) → Prop, k' rows' → Sl rows ie.size l r k' := fun rows k h => by
    obtain ⟨x, y, h1, h2, h3, h4, h5, h6⟩ := h.out
    exact ⟨_, h6, fun k' hk => by refine .mk_ ?_; exact ⟨x, y, h1, h2, h3, h4, h5, _, rfl, hk⟩⟩
  match ag, cs, hk with
  | none, [.s .imm rows], hk =>
    obtain ⟨rows', hk, hb⟩ := back _ _ hk
    exact ⟨_, hk, From.hold _ _ _ _, fun F' hA K' hK => hs _ (hl F' (hA.mono (by simp +contextual)) _ (hl2 F' (hA.mono (by simp +contextual)) _ (hl3 F' (hA.mono (by simp +contextual)) _ (hb _ hK))))⟩
  | none, [.z], hk =>
    obtain ⟨rows', hk, hb⟩ := back _ _ hk
    exact ⟨_, hk, From.hold _ _ _ _, fun F' hA K' hK => hs _ (hl F' (hA.mono (by simp +contextual)) _ (hl2 F' (hA.mono (by simp +contextual)) _ (hl3 F' (hA.mono (by simp +contextual)) _ (hb _ hK))))⟩
theorem field_loc {T f : Nat} {x : Operand} (h : aField TE F T x f K) : Loc (fun F K => aField TE F T x f K) F (tm x) K := by
  unfold aField at h
  split at h
  case h_2 => exact h.elim
  rename_i flds hT
  split at h
  case h_2 => exact h.elim
  rename_i p hp
  split at h
  case h_2 => exact h.elim
  rename_i i hi
  obtain ⟨ag, cs, hk, hl⟩ := valA_loc h
  cases hb : (ag.isSome && (i.agg || Nat.beq i.size 1) && Nat.ble (p.1 + i.size) cs.length) with
  | false => rw [hb] at hk; exact hk.elim
  | true =>
    rw [hb] at hk
    simp only [cond_true] at hk
    cases hn : noOwn (takeA cs p.1 i.size) with
    | false => rw [hn] at hk; exact hk.elim
    | true =>
      rw [hn] at hk
      simp only [cond_true, fc_eq] at hk
      exact ⟨_, hk, From.hold _ _ _ _, fun F' hA K' hK => by unfold aField; simp only [hT, hp, hi]; exact hl F' hA _ (by rw [hb, hn]; simp only [cond_true, fc_eq]; exact hK)⟩
theorem conv_loc {T1 T2 : Nat} {x : Operand} (h : aConv TE F T1 T2 x K) : Loc (fun F K => aConv TE F T1 T2 x K) F (tm x) K := by
  unfold aConv at h
  split at h
  · rename_i h1 h2
    obtain ⟨n, hk, hl⟩ := int_loc h
    obtain ⟨z, h3, hk⟩ := hk.out
    exact ⟨_, hk, From.hold _ _ _ _, fun F' hA K' hK => by unfold aConv; simp only [h1, h2]; exact hl F' hA _ (Wr.mk h3 hK)⟩
  · exact h.elim
theorem mm_loc {mx : Bool} {x y : Operand} (h : aMM mx F x y K) : Loc (fun F K => aMM mx F x y K) F (tm x ++ tm y) K := by
  obtain ⟨z, hz, hl⟩ := scA_loc h
  cases z with
  | int kk n =>
    obtain ⟨m, hk, hl2⟩ := int_loc hz
    obtain ⟨z, h3, hk⟩ := hk.out
    exact ⟨_, hk, From.hold _ _ _ _, fun F' hA K' hK => hl F' (hA.mono (by simp +contextual)) _ (hl2 F' (hA.mono (by simp +contextual)) _ (Ev.mk h3 hK))⟩
  | _ => exact hz.elim

theorem From.mono {ts ts' : List Nat} {av : AV} (h : From F ts av) (hs : ∀ t, t ∈ ts → t ∈ ts') : From F ts' av := fun d hd => (h d hd).imp (hs d) (fun ⟨t, ht, hu⟩ => ⟨t, hs t ht, hu⟩)
theorem Loc.mono {p : (Nat → AV) → (AV → Prop) → Prop} {ts ts' : List Nat} (h : Loc p F ts K) (hs : ∀ t, t ∈ ts → t ∈ ts') : Loc p F ts' K := by
  obtain ⟨av, h1, h2, h3⟩ := h
  exact ⟨av, h1, h2.mono hs, fun F' hA K' hK => h3 F' (hA.mono hs) K' hK⟩
def opTms (o : Op) : List Nat := o.operands.toList.flatMap tm
theorem pure_loc {o : Op} (h : aPure P TE F o K) : Loc (fun F K => aPure P TE F o K) F (opTms o) K := by
  cases o with
  | move x => exact (move_loc h).mono (by simp [opTms, Op.operands])
  | assign x => exact (move_loc h).mono (by simp [opTms, Op.operands])
  | nilCheck x =>
    cases x with
    | tmp t =>
      have ht : t ∈ tm (.tmp t) := by simp [tm]
      have key : ∀ F' : Nat → AV, F' t = F t → ∀ K', aPure P TE F' (.nilCheck (.tmp t)) K' = (match F t with | .ref .. => aMove F' (.tmp t) K' | .iref .. => aMove F' (.tmp t) K' | .hold .box _ => aMove F' (.tmp t) K' | _ => False) := fun F' e K' => by
        unfold aPure
        simp only
        rw [e]
        cases F t with
        | hold k cs => cases k <;> rfl
        | _ => rfl
      rw [key F rfl] at h
      have fin : aMove F (.tmp t) K → (∀ K' (F' : Nat → AV), F' t = F t → aMove F' (.tmp t) K' → aPure P TE F' (.nilCheck (.tmp t)) K') → Loc (fun F K => aPure P TE F (.nilCheck (.tmp t)) K) F (opTms (.nilCheck (.tmp t))) K := fun hm hc => by
        obtain ⟨av, h1, h2, h3⟩ := move_loc hm
        exact ⟨av, h1, h2.mono (by simp [opTms, Op.operands]), fun F' hA K' hK => hc _ F' (hA t (by simp [opTms, Op.operands, tm])).1 (h3 F' (hA.mono (by simp [opTms, Op.operands])) K' hK)⟩
      cases hF : F t with
      | hold k cs =>
        rw [hF] at h
        cases k with
        | box => exact fin h fun K' F' e hm => by rw [key F' e, hF]; exact hm
        | _ => exact h.elim
      | ref => rw [hF] at h; exact fin h fun K' F' e hm => by rw [key F' e, hF]; exact hm
      | iref => rw [hF] at h; exact fin h fun K' F' e hm => by rw [key F' e, hF]; exact hm
      | _ => rw [hF] at h; exact h.elim
    | _ => exact h.elim
  | load T x => exact (load_loc h).mono (by simp [opTms, Op.operands])
  | fieldAddr T x f => exact (fieldAddr_loc h).mono (by simp [opTms, Op.operands])
  | indexAddr T x y => exact (indexAddr_loc h).mono (by simp [opTms, Op.operands])
  | binOp op T x y yT =>
    obtain ⟨z, hz, hl⟩ := scA_loc h
    obtain ⟨z2, hz2, hl2⟩ := scA_loc hz
    obtain ⟨v, hv, hs⟩ := binT_sel hz2
    refine ⟨_, hv, From.hold _ _ _ _, fun F' hA K' hK => hl F' (hA.mono (by simp +contextual [opTms, Op.operands])) _ (hl2 F' (hA.mono (by simp +contextual [opTms, Op.operands])) _ (hs _ hK))⟩
  | unOp op T x =>
    obtain ⟨z, hz, hl⟩ := scA_loc h
    obtain ⟨v, hv, hs⟩ := unA_sel hz
    exact ⟨_, hv, From.hold _ _ _ _, fun F' hA K' hK => hl F' (hA.mono (by simp [opTms, Op.operands])) _ (unA_mono hs fun v' e => by rw [e]; exact hK)⟩
  | pick c x y => exact (pick_loc h).mono (by simp [opTms, Op.operands])
  | alloc T =>
    simp only [aPure] at h
    unfold aAlloc at h
    split at h
    · rename_i i hT
      exact ⟨_, h, From.hold _ _ _ _, fun F' _ K' hK => by simp only [aPure, aAlloc, hT]; exact hK⟩
    · exact h.elim
  | box T x => exact (box_loc h).mono (by simp [opTms, Op.operands])
  | extract x i => exact (extract_loc h).mono (by simp [opTms, Op.operands])
  | build T ps => exact (build_loc h).mono (by simp +contextual [opTms, Op.operands, tms])
  | buildSlice T n ps => exact (buildS_loc h).mono (by simp +contextual [opTms, Op.operands, tms])
  | makeSlice T x y => exact (make_loc h).mono (by simp [opTms, Op.operands])
  | makeMap T r =>
    simp only [aPure, aMakeMap] at h ⊢
    split at h
    case h_2 => exact h.elim
    exact ⟨_, h, From.hold _ _ _ _, fun F' _ K' hK => hK⟩
  | lookup T x y ok => exact (look_loc h).mono (by simp [opTms, Op.operands])
  | slice T x lo hi mx =>
    cases mx with
    | none => exact (slice_loc h).mono (by cases lo <;> cases hi <;> simp [opTms, Op.operands, otm])
    | some _ => exact h.elim
  | field T x f => exact (field_loc h).mono (by simp [opTms, Op.operands])
  | convert T1 T2 x => exact (conv_loc h).mono (by simp [opTms, Op.operands])
  | call c =>
    obtain ⟨callee, args, ts⟩ := c
    simp only [aPure] at h
    split at h
    · rename_i f
      exact (call_loc h).mono (by simp +contextual [opTms, Op.operands, Call.operands, tms])
    · split at h
      · rename_i x T hx hT
        have e1 : args = #[x] := by apply Array.ext'; simpa using hx
        have e2 : ts = #[T] := by apply Array.ext'; simpa using hT
        subst e1 e2
        exact (len_loc h).mono (by simp [opTms, Op.operands, Call.operands])
      · exact h.elim
    · split at h
      · rename_i x y T T2 hx hT
        have e1 : args = #[x, y] := by apply Array.ext'; simpa using hx
        have e2 : ts = #[T, T2] := by apply Array.ext'; simpa using hT
        subst e1 e2
        cases hb : Nat.beq T T2 with
        | false => rw [hb] at h; exact h.elim
        | true =>
          rw [hb] at h
          obtain ⟨av, h1, h2, h3⟩ := (appP_loc h).mono (ts' := opTms (.call ⟨.builtin .append, #[x, y], #[T, T2]⟩)) (by simp [opTms, Op.operands, Call.operands])
          exact ⟨av, h1, h2, fun F' hA K' hK => by simp only [aPure, hb, cond_true]; exact h3 F' hA K' hK⟩
      · exact h.elim
    · split at h
      · rename_i x y hx
        have e1 : args = #[x, y] := by apply Array.ext'; simpa using hx
        subst e1
        exact (mm_loc h).mono (by simp [opTms, Op.operands, Call.operands])
      · exact h.elim
    · split at h
      · rename_i x y hx
        have e1 : args = #[x, y] := by apply Array.ext'; simpa using hx
        subst e1
        exact (mm_loc h).mono (by simp [opTms, Op.operands, Call.operands])
      · exact h.elim
    · exact h.elim
  | _ => exact h.elim
end
end Go.Proofs.YthinjmmlpgjhnaaGreat.Ab
