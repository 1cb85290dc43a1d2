/- Abstract runs: one operation, a region in the text's order. No condition. -/
import Derived.Test.YthinjmmlpgjhnaaGreatAbZ
namespace Go.Proofs.YthinjmmlpgjhnaaGreat.Ab
open Go.RowKit

/-- A flag, once it has been asked. -/
def setB (F : Nat → AV) (d : Nat) (b : Bool) : Nat → AV := fun t => bif Nat.beq t d then .hold .one [.v (.bool b)] else F t
def guardA (F : Nat → AV) (ops : Array Oper) (g : Option (Nat × Bool)) (K1 K0 : (Nat → AV) → Prop) : Prop :=
  match g with
  | none => K1 F
  | some (j, want) => match (ops[j]?).bind (·.dst) with
    | some d => (match F d with
      | .hold .one [.v (.bool b)] => Bf b (bif want then K1 (setB F d true) else K0 (setB F d true)) (bif want then K0 (setB F d false) else K1 (setB F d false))
      | _ => False)
    | none => False
def isApp (c : Call) : Option (Nat × Operand × Operand) :=
  match c.callee with
  | .builtin .append => (match c.args.toList, c.argTypes.toList with | [x, y], [T, T2] => bif Nat.beq T T2 then some (T, x, y) else none | _, _ => none)
  | _ => none
def aDst (P : Program) (TE : Nat → Option TI) (N : Lim) (d : Nat) (op : Op) (K : (Nat → AV) → Prop) (F : Nat → AV) : Prop :=
  match op with
  | .assign x => aAssign N F d x K
  | .box _ x => aBoxW N F d x K
  | .build T ps => aBuildW TE N F d T ps.toList K
  | .buildSlice T n ps => aBuildSW TE N F d T n ps.toList K
  | .call c => (match isApp c with
    | some p => aAppW TE N F d p.1 p.2.1 p.2.2 K
    | none => aPure P TE F (.call c) fun av => putD N F d av K)
  | op => aPure P TE F op fun av => putD N F d av K
def lookM : List (Nat × List Nat) → Nat → Option (List Nat)
  | [], _ => none
  | p :: l, f => bif Nat.beq f p.1 then some p.2 else lookM l f
/-- A call to which something is lent. -/
def isM (N : Lim) (op : Op) : Option (Nat × List Operand × List Nat) :=
  match op with
  | .call c => (match c.callee with
    | .value (.func f) => (match lookM N.mo f with | some ms => some (f, c.args.toList, ms) | none => none)
    | _ => none)
  | _ => none
def aOne (P : Program) (TE : Nat → Option TI) (N : Lim) (ops : Array Oper) (o : Oper) (K : (Nat → AV) → Prop) (F : Nat → AV) : Prop :=
  guardA F ops o.guard (fun F => match isM N o.op with
    | some p => aCallM P N F o.dst p.1 p.2.1 p.2.2 K
    | none => match o.dst with
      | none => (match o.op with | .store T x y => aStore TE F T x y K | .mapUpdate T m x y => aMapUpd TE F T m x y K | _ => False)
      | some d => aDst P TE N d o.op K F)
    (fun F => match o.dst with | none => K F | some d => putD N F d .dead K)
def runA (P : Program) (TE : Nat → Option TI) (N : Lim) (ops : Array Oper) : List Oper → ((Nat → AV) → Prop) → (Nat → AV) → Prop
  | [], K, F => K F
  | o :: rest, K, F => aOne P TE N ops o (runA P TE N ops rest K) F

section
variable {P : Program} {w0 w w1 : World} {M S0 S : CellSet} {N : Lim} {φ : Nat → CellSet} {F : Nat → AV} {a : Act} {TE : Nat → Option TI}

theorem guard_spec (h : StX w0 M S0 N S φ F a w) {ops : Array Oper} {o : Oper} {K1 K0 : (Nat → AV) → Prop} (hp : guardA F ops o.guard K1 K0) :
    (Region.wanted o (yielded ops a.tmps) = true ∧ K1 F) ∨ (Region.wanted o (yielded ops a.tmps) = false ∧ K0 F) := by
  unfold guardA at hp
  unfold Region.wanted
  cases hg : o.guard with
  | none => rw [hg] at hp; exact .inl ⟨rfl, hp⟩
  | some p =>
    obtain ⟨j, want⟩ := p
    rw [hg] at hp
    simp only at hp ⊢
    cases hd : (ops[j]?).bind (·.dst) with
    | none => rw [hd] at hp; exact hp.elim
    | some d =>
      rw [hd] at hp
      simp only at hp
      split at hp
      case h_2 => exact hp.elim
      rename_i b hF
      have hs := h.slot d
      rw [hF] at hs
      obtain ⟨X1, Y, -, -, -, -, f, h1, -⟩ := hs
      have hb := h1 0 _ rfl
      have htv : tvs a d = .bool b := by
        generalize hy : topU w Kd.one (tvs a d) 0 = y at hb
        cases hb
        exact hy
      have hyld : yielded ops a.tmps j = some b := by
        unfold yielded
        rw [hd]
        simp only [Option.bind_some]
        cases hx : a.tmps[d]? with
        | none =>
          have : tvs a d = undef := by simp [tvs, Array.getD_eq_getD_getElem?, hx]
          rw [this] at htv; cases htv
        | some x =>
          have : tvs a d = x := by simp [tvs, Array.getD_eq_getD_getElem?, hx]
          rw [this] at htv
          rw [htv]
      have hset : setB F d b = F := by
        funext t
        unfold setB
        cases ht : Nat.beq t d with
        | true => have := Nat.eq_of_beq_eq_true ht; subst this; rw [hF]; rfl
        | false => rfl
      rw [hyld]
      replace hp := Bf.out hp
      cases b <;> cases want <;> rw [hset] at hp
      · exact .inl ⟨rfl, hp⟩
      · exact .inr ⟨rfl, hp⟩
      · exact .inr ⟨rfl, hp⟩
      · exact .inl ⟨rfl, hp⟩
theorem isApp_spec {c : Call} {p : Nat × Operand × Operand} (h : isApp c = some p) : c = ⟨.builtin .append, #[p.2.1, p.2.2], #[p.1, p.1]⟩ := by
  obtain ⟨callee, args, ts⟩ := c
  unfold isApp at h
  simp only at h
  split at h
  · split at h
    · rename_i x y T T2 hx hT
      cases hb : Nat.beq T T2 with
      | false => rw [hb] at h; cases h
      | true =>
        rw [hb] at h
        simp only [cond_true, Option.some.injEq] at h
        have := Nat.eq_of_beq_eq_true hb
        subst this h
        have e1 : args = #[x, y] := by apply Array.ext'; simpa using hx
        have e2 : ts = #[T, T] := by apply Array.ext'; simpa using hT
        rw [e1, e2]
    · cases h
  · cases h
theorem StX.dst (h : StX w0 M S0 N S φ F a w) (hTE : ∀ t i, TE t = some i → TOk P t i) {o : Oper} {d : Nat} (hd : o.dst = some d) {K : (Nat → AV) → Prop} (hp : aDst P TE N d o.op K F)
    {Kc : Act → World → Prop} {Q : Exit → Act → World → Prop} (hk : ∀ F' a' w', K F' → St w0 M S0 N F' a' w' → Kc a' w') : o.wp P a w Kc Q := by
  have pure1 : aPure P TE F o.op (fun av => putD N F d av K) → o.wp P a w Kc Q := fun hp => by
    obtain ⟨av, hK, hy⟩ := h.pure_ hTE hp
    refine hy Kc Q fun v w' hn => ?_
    obtain ⟨F', hK', hst⟩ := h.putD_new hn hK
    rw [hd]
    exact hk F' _ w' hK' hst
  have val : ∀ {v : Value} {w1 : World} {F' : Nat → AV}, (execOp a.eval o).run P w = .ok (.value v) w1 → K F' → St w0 M S0 N F' (a.put (some d) v) w1 → o.wp P a w Kc Q := fun {v w1 F'} hr hK hst => by
    have := Yld.value (P := P) (o := o) (a := a) (w := w) (w1 := w1) (v := v) (R := fun v' w' => v' = v ∧ w' = w1) hr ⟨rfl, rfl⟩
    refine this Kc Q fun v' w' ⟨e1, e⟩ => ?_
    rw [e, e1, hd]
    exact hk F' _ w1 hK hst
  cases ho : o.op with
  | assign x =>
    rw [ho] at hp
    obtain ⟨F', hK, hst⟩ := h.assign hp
    exact val (by simp [execOp, ho]) hK hst
  | box T x =>
    rw [ho] at hp
    obtain ⟨v, w1, F', hK, hr, hst⟩ := h.boxW (P := P) (T := T) hp
    exact val (by simp [execOp, ho, hr]) hK hst
  | build T ps =>
    rw [ho] at hp
    obtain ⟨v, F', hK, hr, hst⟩ := h.buildW hTE hp
    exact val (by simp only [execOp, ho]; rw [Sem.run_bind, hr]; rfl) hK hst
  | buildSlice T n ps =>
    rw [ho] at hp
    obtain ⟨v, w1, F', hK, hr, hst⟩ := h.buildSW hTE hp
    exact val (by simp only [execOp, ho]; rw [Sem.run_bind, hr]; rfl) hK hst
  | call c =>
    rw [ho] at hp
    simp only [aDst] at hp
    cases ha : isApp c with
    | none => rw [ha] at hp; exact pure1 (by rw [ho]; exact hp)
    | some p =>
      rw [ha] at hp
      obtain ⟨v, w1, F', hK, hr, hst⟩ := h.appW (ty := o.type) hTE hp
      have := isApp_spec ha
      subst this
      exact val (by simp [execOp, ho, resolve, invoke, builtin, hr]) hK hst
  | _ => rw [ho] at hp; exact pure1 (by rw [ho]; exact hp)
theorem isM_spec {op : Op} {p : Nat × List Operand × List Nat} (h : isM N op = some p) : ∃ args ts, op = .call ⟨.value (.func p.1), args, ts⟩ ∧ args.toList = p.2.1 := by
  unfold isM at h
  split at h
  · rename_i c
    obtain ⟨callee, args, ts⟩ := c
    simp only at h
    split at h
    · split at h
      · simp only [Option.some.injEq] at h
        subst h
        exact ⟨args, ts, rfl, rfl⟩
      · cases h
    · cases h
  · cases h
theorem StX.one (h : StX w0 M S0 N S φ F a w) (hTE : ∀ t i, TE t = some i → TOk P t i) {ops : Array Oper} {o : Oper} {K : (Nat → AV) → Prop} (hp : aOne P TE N ops o K F)
    {Kc : Act → World → Prop} {Q : Exit → Act → World → Prop} (hk : ∀ F' a' w', K F' → St w0 M S0 N F' a' w' → Kc a' w') :
    if Region.wanted o (yielded ops a.tmps) then o.wp P a w Kc Q else Kc (a.put o.dst undef) w := by
  unfold aOne at hp
  rcases guard_spec h hp with ⟨hw, hp⟩ | ⟨hw, hp⟩
  · rw [hw, if_pos rfl]
    cases hm : isM N o.op with
    | some p =>
      rw [hm] at hp
      obtain ⟨args, ts, ho, ha⟩ := isM_spec hm
      exact h.callM ho (by rw [ha]; exact hp) hk
    | none =>
    rw [hm] at hp
    simp only at hp
    cases hd : o.dst with
    | none =>
      rw [hd] at hp
      simp only at hp
      split at hp
      · rename_i T x y ho
        obtain ⟨F', w1, hK, hrun, hst⟩ := h.storeOp hTE hp
        have := Yld.skip (P := P) (o := o) (a := a) (w := w) (w1 := w1) (R := fun v w' => v = undef ∧ w' = w1) (by simp [execOp, ho, hrun]) ⟨rfl, rfl⟩
        refine this Kc Q fun v w' ⟨_, e⟩ => ?_
        rw [e, hd]
        exact hk F' a w1 hK hst
      · rename_i T m x y ho
        obtain ⟨F', w1, hK, hrun, hst⟩ := h.mapUpd hTE hp
        have := Yld.skip (P := P) (o := o) (a := a) (w := w) (w1 := w1) (R := fun v w' => v = undef ∧ w' = w1) (by simp [execOp, ho, hrun]) ⟨rfl, rfl⟩
        refine this Kc Q fun v w' ⟨_, e⟩ => ?_
        rw [e, hd]
        exact hk F' a w1 hK hst
      · exact hp.elim
    | some d =>
      rw [hd] at hp
      exact h.dst hTE hd hp hk
  · rw [hw, if_neg (by simp)]
    cases hd : o.dst with
    | none => rw [hd] at hp; exact hk F a w hp ⟨S, φ, h⟩
    | some d =>
      rw [hd] at hp
      obtain ⟨F', hK, hst⟩ := h.putD_new (v := undef) (NewR.same (av := .dead) trivial) hp
      exact hk F' _ w hK hst
theorem run_list (hTE : ∀ t i, TE t = some i → TOk P t i) {ops : Array Oper} {K : (Nat → AV) → Prop} {Q : Exit → Act → World → Prop} (hk : ∀ F' a' w', K F' → St w0 M S0 N F' a' w' → Q .normal a' w') :
    ∀ (l : List Oper) (F : Nat → AV) (a : Act) (w : World), runA P TE N ops l K F → St w0 M S0 N F a w → wpList P ops Q l a w
  | [], F, a, w, hp, hs => hk F a w hp hs
  | o :: l, F, a, w, hp, ⟨S, φ, h⟩ => by
    have := h.one hTE hp (Kc := wpList P ops Q l) (Q := Q) fun F' a' w' hK hs => run_list hTE hk l F' a' w' hK hs
    unfold wpList
    split
    · rename_i hw; rw [if_pos hw] at this; exact .inl this
    · rename_i hw; rw [if_neg hw] at this; exact this
end
end Go.Proofs.YthinjmmlpgjhnaaGreat.Ab
