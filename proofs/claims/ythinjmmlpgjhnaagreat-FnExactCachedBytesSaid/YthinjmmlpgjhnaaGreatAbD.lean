/- A region that draws its order may be run in the text's order, where its operations are apart. No condition. -/
import Derived.Test.YthinjmmlpgjhnaaGreatAbM
namespace Go.Proofs.YthinjmmlpgjhnaaGreat.Ab
open Go.RowKit

def hasEdge (o : Oper) (i : Nat) : Bool := o.after.toList.any fun e => Region.binds .any e && Nat.beq e.on i
def opAt (ops : Array Oper) (i : Nat) : Oper := ops.getD i default
def below (n : Nat) (p : Nat → Bool) : Bool := (List.range n).all p
def looksD (ops : Array Oper) (i j : Nat) : Bool := match (opAt ops i).dst with | some d => ((opAt ops j).looksAt ops).any (Nat.beq d) | none => false
/-- The check: edges lead back; two operations without an edge between them are apart; whoever looks at another's slot comes behind it. -/
def drawOkM (ops : Array Oper) (m : Nat) : Bool :=
  below ops.size fun j => ((opAt ops j).after.toList.all fun e => !Region.binds .any e || Nat.blt e.on j) &&
    (bif Nat.blt j m then below m (fun i => Nat.beq i j || ((hasEdge (opAt ops j) i || hasEdge (opAt ops i) j || (opAt ops i).apart ops (opAt ops j)) && (!looksD ops i j || hasEdge (opAt ops j) i))) else below j fun i => hasEdge (opAt ops j) i)
def lookTb : List (Nat × Nat × List Nat) → Nat → Option (Nat × List Nat)
  | [], _ => none
  | p :: l, id => bif Nat.beq id p.1 then some p.2 else lookTb l id
/-- tb: of each drawn region how many operations stand before those that come behind all others, and the slots that they write. -/
def drawOk (tb : List (Nat × Nat × List Nat)) (id : Nat) (ops : Array Oper) : Bool :=
  match lookTb tb id with
  | some (m, ds) => (Nat.ble m ops.size && below m fun j => match (opAt ops j).dst with | some d => ds.any (Nat.beq d) | none => true) && drawOkM ops m
  | none => false
def aOneP (P : Program) (TE : Nat → Option TI) (N : Lim) (ops : Array Oper) (o : Oper) (K : (Nat → AV) → Prop) (F : Nat → AV) : Prop :=
  guardA F ops o.guard (fun F => match o.dst with | some d => aPure P TE F o.op fun av => putD N F d av K | none => False)
    (fun F => match o.dst with | some d => putD N F d .dead K | none => False)
def runD (P : Program) (TE : Nat → Option TI) (N : Lim) (ops : Array Oper) : Nat → List Oper → ((Nat → AV) → Prop) → (Nat → AV) → Prop
  | 0, l, K, F => runA P TE N ops l K F
  | _ + 1, [], K, F => K F
  | m + 1, o :: l, K, F => aOneP P TE N ops o (runD P TE N ops m l K) F
def memB (ds : List Nat) (t : Nat) : Bool := ds.any (Nat.beq t)
/-- Whatever leads to the slots ds forgotten. -/
def clrV (ds : List Nat) : AV → AV
  | .ref t off st => bif memB ds t then .dead else .ref t off st
  | .bor t off st ag => bif memB ds t then .dead else .bor t off st ag
  | .fn f caps => bif caps.any (memB ds) then .dead else .fn f caps
  | .hold k cs => .hold k cs
  | .iref r off => .iref r off
  | .dead => .dead
def clr (ds : List Nat) (F : Nat → AV) : Nat → AV := fun t => clrV ds (F t)
theorem clr_eq (ds : List Nat) (F : Nat → AV) (t : Nat) : clr ds F t = bif ds.any (fun d => (F t).uses d) then .dead else F t := by
  unfold clr
  cases F t with
  | dead => cases ds.any fun d => AV.uses d .dead <;> rfl
  | hold k cs =>
    have : ds.any (fun d => (AV.hold k cs).uses d) = false := by
      rw [← Bool.not_eq_true, List.any_eq_true]
      rintro ⟨d, _, h⟩
      cases h
    rw [this]; rfl
  | iref r off =>
    have : ds.any (fun d => (AV.iref r off).uses d) = false := by
      rw [← Bool.not_eq_true, List.any_eq_true]
      rintro ⟨d, _, h⟩
      cases h
    rw [this]; rfl
  | ref t' off st => rfl
  | bor t' off st ag => rfl
  | fn f caps =>
    have : ds.any (fun d => (AV.fn f caps).uses d) = caps.any (memB ds) := by
      rw [Bool.eq_iff_iff, List.any_eq_true, List.any_eq_true]
      constructor
      · rintro ⟨d, hd, h⟩
        simp only [AV.uses, List.any_eq_true] at h
        obtain ⟨c, hc, he⟩ := h
        exact ⟨c, hc, List.any_eq_true.2 ⟨d, hd, he⟩⟩
      · rintro ⟨c, hc, h⟩
        obtain ⟨d, hd, he⟩ := List.any_eq_true.1 h
        exact ⟨d, hd, by simp only [AV.uses, List.any_eq_true]; exact ⟨c, hc, he⟩⟩
    rw [this]; rfl
def DD (P : Program) (TE : Nat → Option TI) (N : Lim) (tb : List (Nat × Nat × List Nat)) (id : Nat) (ops : Array Oper) (K : (Nat → AV) → Prop) (F : Nat → AV) : Prop :=
  match lookTb tb id with
  | some (m, ds) => runD P TE N ops m ops.toList K (clr ds F)
  | none => False

theorem below_spec {n : Nat} {p : Nat → Bool} (h : below n p = true) {i : Nat} (hi : i < n) : p i = true := List.all_eq_true.1 h i (List.mem_range.2 hi)
theorem hasEdge_spec {o : Oper} {i : Nat} : hasEdge o i = true ↔ ∃ e, e ∈ o.after ∧ Region.binds .any e = true ∧ e.on = i := by
  unfold hasEdge
  rw [List.any_eq_true]
  constructor
  · rintro ⟨e, he, hb⟩
    simp only [Bool.and_eq_true] at hb
    exact ⟨e, by simpa using he, hb.1, Nat.eq_of_beq_eq_true hb.2⟩
  · rintro ⟨e, he, hb, rfl⟩
    exact ⟨e, by simpa using he, by rw [hb, Nat.beq_refl]; rfl⟩
theorem opAt_some {ops : Array Oper} {i : Nat} {o : Oper} (h : ops[i]? = some o) : opAt ops i = o := by simp [opAt, Array.getD_eq_getD_getElem?, h]
section
variable {P : Program} {w0 w w1 : World} {M S0 S : CellSet} {N : Lim} {φ : Nat → CellSet} {F : Nat → AV} {a : Act} {TE : Nat → Option TI} {ops : Array Oper}

theorem setB_same {d : Nat} {b : Bool} (hF : F d = .hold .one [.v (.bool b)]) : setB F d b = F := by
  funext t
  unfold setB
  cases ht : Nat.beq t d with
  | true => have := Nat.eq_of_beq_eq_true ht; subst this; rw [hF]; rfl
  | false => rfl
theorem looksAt_op (o : Oper) (t : Nat) (h : t ∈ opTms o.op) : t ∈ o.looksAt ops := by
  unfold Oper.looksAt
  refine List.mem_append_left _ ?_
  unfold opTms at h
  obtain ⟨x, hx, ht⟩ := List.mem_flatMap.1 h
  refine List.mem_filterMap.2 ⟨x, hx, ?_⟩
  cases x with
  | tmp t' => simp [tm] at ht; subst ht; rfl
  | _ => simp [tm] at ht
/-- What a slot-only operation yields, at F and wherever a frame says the same of what it looks at. -/
structure Yl (P : Program) (TE : Nat → Option TI) (N : Lim) (ops : Array Oper) (o : Oper) (F : Nat → AV) (d : Nat) (av : AV) : Prop where
  dst : o.dst = some d
  lt : N.free d = true
  self : av.uses d = false
  from_ : From F (o.looksAt ops) av
  at_ : ∀ F' : Nat → AV, Agr F F' (o.looksAt ops) → ∀ K' : (Nat → AV) → Prop, K' (put F' d av) → aOneP P TE N ops o K' F'
theorem Agr.refl (F : Nat → AV) (ts : List Nat) : Agr F F ts := fun _ _ => ⟨rfl, fun _ _ _ _ h => h⟩
theorem oneP_spec {o : Oper} {K : (Nat → AV) → Prop} (h : aOneP P TE N ops o K F) : ∃ d av, Yl P TE N ops o F d av ∧ K (put F d av) := by
  cases hd : o.dst with
  | none =>
    exfalso
    unfold aOneP at h
    rw [hd] at h
    unfold guardA at h
    cases hg : o.guard with
    | none => rw [hg] at h; exact h
    | some p =>
      obtain ⟨j, want⟩ := p
      rw [hg] at h
      simp only at h
      cases hj : (ops[j]?).bind (·.dst) with
      | none => rw [hj] at h; exact h
      | some dg =>
        rw [hj] at h
        simp only at h
        split at h
        · rename_i b _
          replace h := Bf.out h
          cases b <;> cases want <;> exact h
        · exact h
  | some d =>
    have put1 : ∀ {F' : Nat → AV} {av : AV} {K' : (Nat → AV) → Prop}, N.free d = true → av.uses d = false → K' (put F' d av) → putD N F' d av K' := fun h1 h2 h3 => by unfold putD; rw [h1, h2]; exact h3
    have put2 : ∀ {F' : Nat → AV} {av : AV} {K' : (Nat → AV) → Prop}, putD N F' d av K' → N.free d = true ∧ av.uses d = false ∧ K' (put F' d av) := fun {F' av K'} hp => by
      unfold putD at hp
      cases hc : (N.free d && !av.uses d) with
      | false => rw [hc] at hp; exact hp.elim
      | true =>
        rw [hc] at hp
        simp only [Bool.and_eq_true, Bool.not_eq_true'] at hc
        exact ⟨hc.1, hc.2, hp⟩
    have pure1 : aPure P TE F o.op (fun av => putD N F d av K) → ∃ av, N.free d = true ∧ av.uses d = false ∧ K (put F d av) ∧ From F (o.looksAt ops) av ∧ ∀ F' : Nat → AV, Agr F F' (o.looksAt ops) → ∀ K' : (Nat → AV) → Prop, K' (put F' d av) → aPure P TE F' o.op (fun av => putD N F' d av K') := fun hp => by
      obtain ⟨av, h1, h2, h3⟩ := pure_loc hp
      obtain ⟨p1, p2, p3⟩ := put2 h1
      refine ⟨av, p1, p2, p3, h2.mono fun t ht => looksAt_op o t ht, fun F' hA K' hK => ?_⟩
      exact h3 F' (hA.mono fun t ht => looksAt_op o t ht) _ (put1 p1 p2 hK)
    unfold aOneP at h
    rw [hd] at h
    unfold guardA at h
    cases hg : o.guard with
    | none =>
      rw [hg] at h
      obtain ⟨av, p1, p2, p3, p4, p5⟩ := pure1 h
      exact ⟨d, av, ⟨hd, p1, p2, p4, fun F' hA K' hK => by unfold aOneP guardA; rw [hg, hd]; exact p5 F' hA K' hK⟩, p3⟩
    | some p =>
      obtain ⟨j, want⟩ := p
      rw [hg] at h
      simp only at h
      cases hj : (ops[j]?).bind (·.dst) with
      | none => rw [hj] at h; exact h.elim
      | some dg =>
        rw [hj] at h
        simp only at h
        have hdg : dg ∈ o.looksAt ops := by
          unfold Oper.looksAt
          rw [hg]
          simp only [hj, Option.toList_some]
          simp
        split at h
        case h_2 => exact h.elim
        rename_i b hFd
        have same : ∀ {F' : Nat → AV}, Agr F F' (o.looksAt ops) → F' dg = .hold .one [.v (.bool b)] := fun hA => (hA dg hdg).1.trans hFd
        have back : ∀ {F' : Nat → AV} {K' : (Nat → AV) → Prop}, Agr F F' (o.looksAt ops) → (b = want → aPure P TE F' o.op (fun av => putD N F' d av K')) → (b = !want → putD N F' d .dead K') → aOneP P TE N ops o K' F' := fun {F' K'} hA h1 h2 => by
          unfold aOneP guardA
          rw [hg, hd]
          simp only
          rw [hj]
          simp only
          rw [same hA]
          simp only
          refine Bf.P (fun hb => ?_) (fun hb => ?_)
          · subst hb
            rw [setB_same (same hA)]
            cases want with
            | true => exact h1 rfl
            | false => exact h2 rfl
          · subst hb
            rw [setB_same (same hA)]
            cases want with
            | true => exact h2 rfl
            | false => exact h1 rfl
        have hset := setB_same hFd
        replace h := Bf.out h
        by_cases hbw : b = want
        · have hp : aPure P TE F o.op (fun av => putD N F d av K) := by
            subst hbw
            cases b with
            | true => have := h; rw [hset] at this; exact this
            | false => have := h; rw [hset] at this; exact this
          obtain ⟨av, p1, p2, p3, p4, p5⟩ := pure1 hp
          exact ⟨d, av, ⟨hd, p1, p2, p4, fun F' hA K' hK => back hA (fun _ => p5 F' hA K' hK) (fun e => by subst hbw; cases b <;> cases e)⟩, p3⟩
        · have hp : putD N F d .dead K := by
            cases b <;> cases want <;> first | exact absurd rfl hbw | skip
            · have := h; rw [hset] at this; exact this
            · have := h; rw [hset] at this; exact this
          obtain ⟨p1, p2, p3⟩ := put2 hp
          exact ⟨d, .dead, ⟨hd, p1, p2, (fun d hd => by cases hd), fun F' hA K' hK => back hA (fun e => absurd e hbw) (fun _ => put1 p1 p2 hK)⟩, p3⟩
end
end Go.Proofs.YthinjmmlpgjhnaaGreat.Ab
