/- A function's contract out of the abstract run of its body, where something is lent to it. No condition. -/
import Derived.Test.YthinjmmlpgjhnaaGreatAbE
namespace Go.Proofs.YthinjmmlpgjhnaaGreat.Ab
open Go.RowKit

def tagC : C → Value → C
  | .s .own rows, v => .s (.tag v) rows
  | c, _ => c
def tagL (u : Nat → Value) : Nat → List C → List C
  | _, [] => []
  | j, c :: cs => tagC c (u j) :: tagL u (j + 1) cs
def argM (u : Nat → Nat → Value) : Nat → List MA → List (Nat × AV)
  | _, [] => []
  | i, .val ag cs :: A => (i, .hold (kdOf ag) cs) :: argM u (i + 1) A
  | i, .mut ag cs :: A => (i, .hold (kdOf ag) (tagL (u i) 0 cs)) :: argM u (i + 1) A
  | i, .ptr cs :: A => (i, .hold .box cs) :: argM u (i + 1) A
def kpM (p : Nat → Value) : Nat → List MA → List (Nat × Value)
  | _, [] => []
  | i, .ptr _ :: A => (i, p i) :: kpM p (i + 1) A
  | i, _ :: A => kpM p (i + 1) A
/-- The slots in which what was lent lies at the end. -/
def slM : Nat → List MA → List (Nat × Nat) → List (Option Nat)
  | i, .val _ _ :: A, _ :: pl => none :: slM (i + 1) A pl
  | i, .mut _ _ :: A, p :: pl => some p.1 :: slM (i + 1) A pl
  | i, .ptr _ :: A, _ :: pl => some i :: slM (i + 1) A pl
  | _, _, _ => []
def okSl : List (Option Nat) → Bool
  | [] => true
  | none :: l => okSl l
  | some t :: l => l.all (fun x => match x with | some t' => !Nat.beq t t' | none => true) && okSl l
def sles : List (Option Nat) → List Nat
  | [] => []
  | none :: l => sles l
  | some t :: l => t :: sles l
def Bk1 (v : Value) (c y o : C) : Prop :=
  match c with
  | .s .own _ => (match y with | .s (.tag v') rows => v' = v ∧ o = .s .own rows | _ => False)
  | .s (.tag _) _ => False
  | .m _ => False
  | c => o = c
def BkL (u : Nat → Value) : Nat → List C → List C → List C → Prop
  | _, [], _, o => o = []
  | j, c :: cs, y :: xs, o :: os => Bk1 (u j) c y o ∧ BkL u (j + 1) cs xs os
  | _, _, _, _ => False
def backM (u : Nat → Nat → Value) (F : Nat → AV) : Nat → List MA → List (Nat × Nat) → List MA → Prop
  | _, [], _, [] => True
  | i, .val _ _ :: A, _ :: pl, .val _ _ :: B => backM u F (i + 1) A pl B
  | i, .mut ag cs :: A, p :: pl, .mut ag' out :: B => (ag' = ag ∧ match F p.1 with | .hold _ xs => BkL (u i) 0 cs (xs.drop p.2) out | _ => False) ∧ backM u F (i + 1) A pl B
  | i, .ptr _ :: A, _ :: pl, .ptr out :: B => (match F i with | .hold .box xs => xs = out | _ => False) ∧ backM u F (i + 1) A pl B
  | _, _, _, _ => False
/-- What is returned, and what is given back. -/
inductive FinM (k k' : Kd) (cs cs' : List C) (Q : Prop) : Prop
  | mk_ (h : k = k' ∧ cs = cs' ∧ Q)
theorem FinM.mk {k k' : Kd} {cs cs' : List C} {Q : Prop} (h1 : k = k') (h2 : cs = cs') (h3 : Q) : FinM k k' cs cs' Q := by refine .mk_ ?_; exact ⟨h1, h2, h3⟩
theorem FinM.out {k k' : Kd} {cs cs' : List C} {Q : Prop} (h : FinM k k' cs cs' Q) : k = k' ∧ cs = cs' ∧ Q := by obtain ⟨h⟩ := h; exact h
def endM (TE : Nat → Option TI) (rs : List ResultVar) (k : Kd) (rcs : List C) (u : Nat → Nat → Value) (A B : List MA) (pl : List (Nat × Nat)) : Exit → (Nat → AV) → Prop := fun e F =>
  match e with
  | .normal => resA TE F rs (sles (slM 0 A pl)) fun sh cs => FinM (kdOfSh sh) k cs rcs (backM u F 0 A pl B)
  | .ret => resA TE F rs (sles (slM 0 A pl)) fun sh cs => FinM (kdOfSh sh) k cs rcs (backM u F 0 A pl B)
  | _ => False

section
variable {P : Program} {w0 w w1 : World} {M S0 S : CellSet} {N : Lim} {φ : Nat → CellSet} {F : Nat → AV} {a : Act} {TE : Nat → Option TI}

theorem Rep.tag {Y : CellSet} {c : C} {v : Value} (h : Rep w S Y c v) : Rep w S Y (tagC c v) v := by
  cases h with
  | nil _ o a ho => cases o with
    | own => exact .nil _ _ _ rfl
    | _ => exact .nil _ _ _ ho
  | own _ o g k n cap rows u f ho hn hk hcap hpos hF hu hf hd hc => cases o with
    | own => exact .own _ _ g k n cap rows u f rfl hn hk hcap hpos hF hu hf hd hc
    | imm => exact ho.elim
    | tag z => exact .own _ _ g k n cap rows u f ho hn hk hcap hpos hF hu hf hd hc
  | v _ x h1 => exact .v _ _ h1
  | x _ u h1 => exact .x _ _ h1
  | z _ a => exact .z _ _
  | imm _ g off k n cap rows u hn hk hcap hS hc => exact .imm _ g off k n cap rows u hn hk hcap hS hc
  | m _ b clock es ents hF hb he hv => exact .m _ b clock es ents hF hb he hv
theorem Rep.untag {Y : CellSet} {z v : Value} {rows : List (List C)} (h : Rep w S Y (.s (.tag z) rows) v) : v = z ∧ Rep w S Y (.s .own rows) v := by
  cases h with
  | nil _ o a ho => exact ⟨Eq.symm ho, .nil _ _ _ trivial⟩
  | own _ o g k n cap rows u f ho hn hk hcap hpos hF hu hf hd hc => exact ⟨Eq.symm ho, .own _ _ g k n cap rows u f trivial hn hk hcap hpos hF hu hf hd hc⟩
theorem tagL_len (u : Nat → Value) : ∀ (j : Nat) (cs : List C), (tagL u j cs).length = cs.length
  | _, [] => rfl
  | j, c :: cs => by simp [tagL, tagL_len u (j + 1) cs]
theorem tagL_get (u : Nat → Value) : ∀ (j0 : Nat) (cs : List C) (j : Nat), (tagL u j0 cs)[j]? = (cs[j]?).map fun c => tagC c (u (j0 + j))
  | _, [], j => by simp [tagL]
  | j0, c :: cs, 0 => by simp [tagL]
  | j0, c :: cs, j + 1 => by simp only [tagL, List.getElem?_cons_succ]; rw [tagL_get u (j0 + 1) cs j, show j0 + 1 + j = j0 + (j + 1) by omega]
theorem Row.tag {Y : CellSet} {cs : List C} {u : Nat → Value} (h : Row w S Y cs u) : Row w S Y (tagL u 0 cs) u := by
  obtain ⟨f, h1, h2, h3⟩ := h
  refine ⟨f, fun j c hj => ?_, fun j hj => h2 j (by rwa [tagL_len] at hj), fun j j' hj hj' => h3 j j' (by rwa [tagL_len] at hj) (by rwa [tagL_len] at hj')⟩
  rw [tagL_get, Nat.zero_add] at hj
  cases hc : cs[j]? with
  | none => rw [hc] at hj; cases hj
  | some c0 =>
    rw [hc] at hj
    simp only [Option.map_some, Option.some.injEq] at hj
    subst hj
    exact (h1 j c0 hc).tag
/-- The values of an argument's cells. -/
def celF (v : Value) (j : Nat) : Value := v.cells.toList.getD j undef
theorem ValOk.celF {Y : CellSet} {ag : Option Nat} {cs : List C} {v : Value} (h : ValOk w S Y ag cs v) : cs.length = ag.getD 1 ∧ v = mkv ag (celF v) ∧ Row w S Y cs (celF v) := by
  obtain ⟨h1, u, h2, h3⟩ := h
  have hc := mkv_cells (ag := ag) (u := u) (fun e => by subst e; exact h3.one (by simp at h1; omega))
  have hu : ∀ j, j < ag.getD 1 → Ab.celF v j = u j := fun j hj => by
    unfold Ab.celF; rw [h2, hc]; simp [List.getD, hj]
  exact ⟨h1, h2.trans (mkv_congr fun j hj => (hu j hj).symm), h3.congr fun j hj => hu j (by omega)⟩
def slotM (u : Nat → Nat → Value) (i : Nat) : MA → AV
  | .val ag cs => .hold (kdOf ag) cs
  | .mut ag cs => .hold (kdOf ag) (tagL (u i) 0 cs)
  | .ptr cs => .hold .box cs
theorem argM_slot {u : Nat → Nat → Value} : ∀ {A : List MA} {vs : List Value} {V : Nat → CellSet} (i : Nat), MAs w S V A vs → ∀ t, (lay (argM u i A) t = .dead) ∨ (∃ m v, i ≤ t ∧ vs[t - i]? = some v ∧ A[t - i]? = some m ∧ lay (argM u i A) t = slotM u t m ∧ MAOk w S (V (t - i)) m v)
  | [], _, _, i, _, t => .inl rfl
  | m :: A, [], _, i, h, t => h.elim
  | m :: A, v :: vs, V, i, h, t => by
    have hl : lay (argM u i (m :: A)) t = bif Nat.beq t i then slotM u i m else lay (argM u (i + 1) A) t := by cases m <;> rfl
    rw [hl]
    cases hb : Nat.beq t i with
    | true =>
      have := Nat.eq_of_beq_eq_true hb
      subst this
      exact .inr ⟨m, v, Nat.le_refl _, by simp, by simp, rfl, by rw [Nat.sub_self]; exact h.1⟩
    | false =>
      have hne : t ≠ i := fun e => by subst e; rw [Nat.beq_refl] at hb; cases hb
      rcases argM_slot (i + 1) h.2 t with h1 | ⟨m', v', h1, h2, h3, h4, h5⟩
      · exact .inl h1
      · refine .inr ⟨m', v', by omega, ?_, ?_, h4, ?_⟩
        · rw [show t - i = (t - (i + 1)) + 1 by omega]; simpa using h2
        · rw [show t - i = (t - (i + 1)) + 1 by omega]; simpa using h3
        · rw [show t - i = (t - (i + 1)) + 1 by omega]; exact h5
theorem MAs_len : ∀ {A : List MA} {vs : List Value} {V : Nat → CellSet}, MAs w S V A vs → A.length = vs.length
  | [], [], _, _ => rfl
  | _ :: _, _ :: _, _, h => by simp [MAs_len h.2]
  | [], _ :: _, _, h => h.elim
  | _ :: _, [], _, h => h.elim
theorem kpM_get {p : Nat → Value} : ∀ {A : List MA} {i : Nat} {q : Nat × Value}, q ∈ kpM p i A → i ≤ q.1 ∧ q.1 < i + A.length ∧ q.2 = p q.1
  | [], _, _, h => by simp [kpM] at h
  | m :: A, i, q, h => by
    have hr : q ∈ kpM p (i + 1) A → i ≤ q.1 ∧ q.1 < i + (m :: A).length ∧ q.2 = p q.1 := fun h => by
      obtain ⟨h1, h2, h3⟩ := kpM_get h
      exact ⟨by omega, by simp; omega, h3⟩
    cases m with
    | ptr cs =>
      rcases List.mem_cons.1 h with rfl | h
      · exact ⟨Nat.le_refl _, by simp, rfl⟩
      · exact hr h
    | val => exact hr h
    | «mut» => exact hr h
theorem kpM_mem {p : Nat → Value} : ∀ {A : List MA} {i n : Nat} {cs : List C}, A[n]? = some (.ptr cs) → (i + n, p (i + n)) ∈ kpM p i A
  | [], _, n, _, h => by simp at h
  | m :: A, i, 0, cs, h => by simp at h; subst h; simp [kpM]
  | m :: A, i, n + 1, cs, h => by
    have h1 := kpM_mem (p := p) (i := i + 1) (show A[n]? = some (.ptr cs) by simpa using h)
    rw [show i + 1 + n = i + (n + 1) by omega] at h1
    cases m with
    | ptr cs => exact List.mem_cons_of_mem _ h1
    | val => exact h1
    | «mut» => exact h1
def slX (φ : Nat → CellSet) : Option (Option Nat) → CellSet
  | some (some t) => φ t
  | _ => NO
theorem BkL_get {u : Nat → Value} : ∀ {j0 : Nat} {cs xs os : List C}, BkL u j0 cs xs os → cs.length = os.length ∧ ∀ (j : Nat) (c o : C), cs[j]? = some c → os[j]? = some o → ∃ y, (isOwn c = true → xs[j]? = some y) ∧ Bk1 (u (j0 + j)) c y o
  | _, [], xs, os, h => by simp only [BkL] at h; subst h; exact ⟨rfl, fun j c o h => by simp at h⟩
  | _, _ :: _, [], _, h => by simp only [BkL] at h
  | _, _ :: _, _ :: _, [], h => by simp only [BkL] at h
  | j0, c0 :: cs, x0 :: xs, o0 :: os, h => by
    simp only [BkL] at h
    obtain ⟨h1, h2⟩ := BkL_get h.2
    refine ⟨by simp [h1], fun j c o hj ho => ?_⟩
    cases j with
    | zero => simp at hj ho; subst hj ho; exact ⟨x0, fun _ => rfl, h.1⟩
    | succ j =>
      obtain ⟨y, e1, e2⟩ := h2 j c o (by simpa using hj) (by simpa using ho)
      exact ⟨y, fun hc => by simpa using e1 hc, by rw [show j0 + (j + 1) = j0 + 1 + j by omega]; exact e2⟩
theorem back_val {S' Y Y' : CellSet} {u tu : Nat → Value} {cs xs os : List C} {off : Nat} (hsame : SameOn S w w1) (hsub : ∀ b o, S b o → S' b o) (h : Row w S Y cs u) (h' : Row w1 S' Y' xs tu) (hb : BkL u 0 cs (xs.drop off) os) : Row w1 S' Y' os u := by
  obtain ⟨f, h1, h2, h3⟩ := h
  obtain ⟨f', h1', h2', h3'⟩ := h'
  obtain ⟨hl, hg⟩ := BkL_get hb
  refine ⟨fun j b o => off + j < xs.length ∧ f' (off + j) b o, fun j c hj => ?_, fun j hj b o hb => h2' _ hb.1 b o hb.2, fun j j' hj hj' hne b o hb hb' => h3' _ _ hb.1 hb'.1 (by omega) b o hb.2 hb'.2⟩
  have hjl := (List.getElem?_eq_some_iff.1 hj).1
  have hcs : cs[j]? = some cs[j] := List.getElem?_eq_getElem (by omega)
  obtain ⟨y, hx, hbk⟩ := hg j _ c hcs hj
  rw [Nat.zero_add] at hbk
  have hrep := h1 j _ hcs
  generalize cs[j] = c0 at hcs hbk hrep hx
  have keep : isOwn c0 = false → c = c0 → Rep w1 S' (fun b o => off + j < xs.length ∧ f' (off + j) b o) c (u j) := fun hi e => by
    subst e
    exact ((hrep.bare (F' := NO) hi).keep hsame (fun _ _ h => h.elim)).mono hsub (fun _ _ h => h.elim)
  cases c0 with
  | v x0 => exact keep rfl hbk
  | x => exact keep rfl hbk
  | z => exact keep rfl hbk
  | m es => exact hbk.elim
  | s o rows =>
    cases o with
    | imm => exact keep rfl hbk
    | tag z => exact hbk.elim
    | own =>
      have hx := hx rfl
      rw [List.getElem?_drop] at hx
      have hlt := (List.getElem?_eq_some_iff.1 hx).1
      simp only [Bk1] at hbk
      split at hbk
      case h_2 => exact hbk.elim
      rename_i v' rows'
      obtain ⟨rfl, rfl⟩ := hbk
      obtain ⟨e1, e2⟩ := (h1' _ _ hx).untag
      rw [e1] at e2
      exact e2.mono (fun _ _ h => h) (fun b o h => ⟨hlt, h⟩)
theorem StX.backs {w' : World} {S' : CellSet} {u : Nat → Nat → Value} (h : StX w0 M S0 N S' φ F a w') (hsame : SameOn S w w') (hsub : ∀ b o, S b o → S' b o) : ∀ {A : List MA} {pl : List (Nat × Nat)} {B : List MA} {vs : List Value} {V : Nat → CellSet} {i : Nat}, MAs w S V A vs →
    (∀ j v, vs[j]? = some v → u (i + j) = celF v) → (∀ j v cs, vs[j]? = some v → A[j]? = some (.ptr cs) → tvs a (i + j) = v) → backM u F i A pl B → MPs w' S' (fun n => slX φ (slM i A pl)[n]?) B vs
  | [], pl, B, vs, V, i, hA, hu, hp, hb => by
    cases vs with
    | cons _ _ => exact hA.elim
    | nil => cases B with
      | nil => trivial
      | cons _ _ => simp only [backM] at hb
  | m :: A, [], B, vs, V, i, hA, hu, hp, hb => by cases m <;> simp only [backM] at hb
  | m :: A, p :: pl, [], vs, V, i, hA, hu, hp, hb => by cases m <;> simp only [backM] at hb
  | m :: A, p :: pl, m' :: B, [], V, i, hA, hu, hp, hb => hA.elim
  | m :: A, p :: pl, m' :: B, v :: vs, V, i, hA, hu, hp, hb => by
    have next : backM u F (i + 1) A pl B → MPs w' S' (fun n => slX φ (slM (i + 1) A pl)[n]?) B vs := fun hb =>
      StX.backs h hsame hsub hA.2 (fun j v hj => by rw [show i + 1 + j = i + (j + 1) by omega]; exact hu (j + 1) v (by simpa using hj))
        (fun j v cs hj hc => by rw [show i + 1 + j = i + (j + 1) by omega]; exact hp (j + 1) v cs (by simpa using hj) (by simpa using hc)) hb
    cases m with
    | val ag cs =>
      cases m' with
      | val ag' cs' => simp only [backM] at hb; exact ⟨trivial, next hb⟩
      | ptr => simp only [backM] at hb
      | «mut» => simp only [backM] at hb
    | «mut» ag cs =>
      cases m' with
      | val => simp only [backM] at hb
      | ptr => simp only [backM] at hb
      | «mut» ag' out =>
        simp only [backM] at hb
        obtain ⟨⟨rfl, hb1⟩, hb2⟩ := hb
        refine ⟨?_, next hb2⟩
        have hv := ValOk.celF (show ValOk w S (V 0) ag' cs v from hA.1)
        have hu0 : u i = celF v := hu 0 v (by simp)
        have hs := h.slot p.1
        cases hF : F p.1 with
        | hold k xs =>
          rw [hF] at hb1 hs
          simp only at hb1
          rw [hu0] at hb1
          obtain ⟨X1, Y, e1, e2, e3, e4, e5⟩ := hs
          refine ⟨by rw [← (BkL_get hb1).1]; exact hv.1, celF v, hv.2.1, ?_⟩
          exact (back_val hsame hsub hv.2.2 e5 hb1).mono (fun _ _ h => h) (fun b o hb => by simpa [slM, slX] using e2 b o hb)
        | _ => rw [hF] at hb1; exact hb1.elim
    | ptr cs =>
      cases m' with
      | val => simp only [backM] at hb
      | «mut» => simp only [backM] at hb
      | ptr out =>
        simp only [backM] at hb
        refine ⟨?_, next hb.2⟩
        have hv : tvs a i = v := hp 0 v cs (by simp) (by simp)
        have hs := h.slot i
        cases hF : F i with
        | hold k xs =>
          cases k with
          | box =>
            rw [hF] at hb hs
            have := hb.1
            simp only at this
            subst this
            rw [hv] at hs
            obtain ⟨X1, Y, e1, e2, e3, e4, e5⟩ := hs
            exact ⟨X1, Y, fun b o hb => by simpa [slM, slX] using e1 b o hb, fun b o hb => by simpa [slM, slX] using e2 b o hb, e3, e4, e5⟩
          | _ => rw [hF] at hb; exact hb.1.elim
        | _ => rw [hF] at hb; exact hb.1.elim
theorem okSl_spec : ∀ {l : List (Option Nat)}, okSl l = true → ∀ (i i' t t' : Nat), i ≠ i' → l[i]? = some (some t) → l[i']? = some (some t') → t ≠ t'
  | [], _, i, i', t, t', _, h, _ => by simp at h
  | none :: l, hok, i, i', t, t', hne, h, h' => by
    cases i with
    | zero => simp at h
    | succ i => cases i' with
      | zero => simp at h'
      | succ i' => exact okSl_spec (l := l) hok i i' t t' (by omega) (by simpa using h) (by simpa using h')
  | some t0 :: l, hok, i, i', t, t', hne, h, h' => by
    simp only [okSl, Bool.and_eq_true] at hok
    have hd : ∀ (n s : Nat), l[n]? = some (some s) → t0 ≠ s := fun n s hn e => by
      have := List.all_eq_true.1 hok.1 _ (List.mem_of_getElem? hn)
      simp only [Bool.not_eq_true'] at this
      rw [e, Nat.beq_refl] at this; cases this
    cases i with
    | zero =>
      simp at h; subst h
      cases i' with
      | zero => exact absurd rfl hne
      | succ i' => exact hd i' t' (by simpa using h')
    | succ i => cases i' with
      | zero => simp at h'; subst h'; exact fun e => hd i t (by simpa using h) e.symm
      | succ i' => exact okSl_spec hok.2 i i' t t' (by omega) (by simpa using h) (by simpa using h')
theorem sles_mem : ∀ {l : List (Option Nat)} {i t : Nat}, l[i]? = some (some t) → t ∈ sles l
  | [], i, t, h => by simp at h
  | none :: l, i, t, h => by
    cases i with
    | zero => simp at h
    | succ i => exact sles_mem (l := l) (i := i) (by simpa using h)
  | some t0 :: l, i, t, h => by
    cases i with
    | zero => simp at h; subst h; simp [sles]
    | succ i => exact List.mem_cons_of_mem _ (sles_mem (l := l) (i := i) (by simpa using h))
theorem slX_in {φ : Nat → CellSet} {x : Option (Option Nat)} {b o : Nat} (h : slX φ x b o) : ∃ t, x = some (some t) ∧ φ t b o := by
  match x, h with
  | some (some t), h => exact ⟨t, rfl, h⟩
  | some none, h => exact h.elim
  | none, h => exact h.elim
/-- The contract of a function to which something is lent. -/
theorem callsM_of {f : Nat} {fn : Func} {c : Code} {sh : Bool} {A B : List MA} {k : Kd} {rcs : List C} {mo : List (Nat × List Nat)} {n : Nat} (pl : List (Nat × Nat)) (hTE : ∀ t i, TE t = some i → TOk P t i) (hf : P.funcs[f]? = some fn) (hn : (fn.name == "runtime.NumGoroutine") = false)
    (hb : fn.body = some c) {ck : Nat → Array Oper → Bool} {D : Lim → Nat → Array Oper → ((Nat → AV) → Prop) → (Nat → AV) → Prop} (hD : ∀ N, DrawOk P N ck (D N)) (hc : codeOk ck c = true) (hN : A.length + (fn.ntmps - A.length) = n) (hok : okSl (slM 0 A pl) = true) (hsh : sh = true ∨ frL rcs)
    (hp : ∀ (u : Nat → Nat → Value) (p : Nat → Value), aw P TE ⟨n, kpM p 0 A, mo⟩ (D ⟨n, kpM p 0 A, mo⟩) c (endM TE fn.results.toList k rcs u A B pl) (lay (argM u 0 A))) : CallsM P f sh A B k rcs := by
  refine ⟨⟨fn, hf, hn, by rw [hb]; rfl⟩, fun w S V vs hS hV hVd hA => ?_⟩
  have hlen := MAs_len hA
  refine calls_of_wp hf hb ?_
  let u : Nat → Nat → Value := fun i => celF (vs.getD i undef)
  let p : Nat → Value := fun i => vs.getD i undef
  have htv : ∀ t v, vs[t]? = some v → tvs { tmps := vs.toArray ++ Array.replicate (fn.ntmps - vs.toArray.size) undef, defers := [] } t = v := fun t v h2 => by
    have hlt := (List.getElem?_eq_some_iff.1 h2).1
    simp only [tvs, Array.getD_eq_getD_getElem?]
    rw [Array.getElem?_append_left (by simpa using hlt)]
    simp only [List.getElem?_toArray]
    rw [h2]; rfl
  have hst : St w (fun b o => ∃ i, V i b o) S ⟨n, kpM p 0 A, mo⟩ (lay (argM u 0 A)) { tmps := vs.toArray ++ Array.replicate (fn.ntmps - vs.toArray.size) undef, defers := [] } w := by
    refine ⟨S, V, fun t => ?_, hVd, fun t b o h => (hV t b o h).2, fun t b o h => ⟨(hV t b o h).1, .inr ⟨t, h⟩⟩, fun _ _ h => h, fun b o h => ⟨hS b o h, .inl h⟩, Keeps.refl _ _, by simp; omega, rfl, fun q hq => ?_⟩
    · rcases argM_slot (u := u) 0 hA t with h1 | ⟨m, v, -, h2, h2', h3, h4⟩
      · rw [h1]; trivial
      · rw [h3]
        rw [Nat.sub_zero] at h2 h4
        rw [htv t v h2]
        have hu : u t = celF v := by show celF (vs.getD t undef) = _; rw [List.getD, h2]; rfl
        cases m with
        | val ag cs => exact (ValOk.mono (show ValOk w S NO ag cs v from h4) (fun _ _ h => h) (fun _ _ h => h.elim)).slot
        | «mut» ag cs =>
          obtain ⟨e1, e2, e3⟩ := ValOk.celF (show ValOk w S (V t) ag cs v from h4)
          refine ValOk.slot ⟨by rw [tagL_len]; exact e1, celF v, e2, ?_⟩
          rw [hu]; exact e3.tag
        | ptr cs => exact h4
    · obtain ⟨-, h1, h2⟩ := kpM_get hq
      rw [h2]
      have hlt : q.1 < vs.length := by omega
      refine htv _ _ ?_
      show vs[q.1]? = some (vs.getD q.1 undef)
      rw [List.getD, List.getElem?_eq_getElem hlt]; rfl
  refine aw_sound hTE (hD _) c hc _ _ _ _ w (hp u p) hst fun e F' a' w' he hs' => ?_
  obtain ⟨S', φ', h⟩ := hs'
  have fin : resA TE F' fn.results.toList (sles (slM 0 A pl)) (fun sh cs => FinM (kdOfSh sh) k cs rcs (backM u F' 0 A pl B)) → a'.defers = [] ∧ ∃ v, (results fn a'.tmps).run P w' = .ok v w' ∧ (∃ v', Ending.returned v = .returned v' ∧ Keeps (fun b o => ∃ i, V i b o) w w' ∧ ∃ (X : CellSet) (V' : Nat → CellSet) (S1 : CellSet),
      (∀ b o, X b o → (∃ i, V i b o) ∨ (b < w'.heap.size ∧ w.heap.size ≤ b)) ∧ (∀ i b o, V' i b o → (∃ i, V i b o) ∨ (b < w'.heap.size ∧ w.heap.size ≤ b)) ∧
      (∀ b o, S1 b o → (sh = true ∧ S b o) ∨ (∃ i, V i b o) ∨ (b < w'.heap.size ∧ w.heap.size ≤ b)) ∧
      (∀ i i', i ≠ i' → ∀ b o, V' i b o → ¬ V' i' b o) ∧ (∀ i b o, X b o → ¬ V' i b o) ∧ (∀ b o, X b o → ¬ S1 b o) ∧ (∀ i b o, V' i b o → ¬ S1 b o) ∧
      HoldOk w' NO k rcs.length v' ∧ Row w' S1 X rcs (topU w' k v') ∧ MPs w' (fun b o => S b o ∨ S1 b o) V' B vs) := by
    intro hr
    obtain ⟨shs, cs, vs', u', hfin, hrun, hT, hln, hL, hcells, hone, hrow⟩ := h.resA hTE hr
    obtain ⟨rfl, rfl, hback⟩ := hfin.out
    refine ⟨h.defers, ?_⟩
    have hrun2 : (results fn a'.tmps).run P w' = .ok (if h : vs'.toArray.size = 1 then vs'.toArray[0] else .tuple vs'.toArray) w' := by
      have e : results fn a'.tmps = (do let vs ← fn.results.mapM (rvRun a'.tmps); pure (if h : vs.size = 1 then vs[0] else .tuple vs)) := by
        unfold results
        congr 1
      rw [e, ← Array.toArray_toList (xs := fn.results), List.mapM_toArray]
      simp only [Sem.run_bind, Sem.run_map, hrun, Result.andThen_ok, Sem.run_pure]
    have hex : ∀ t b o, φ' t b o → (∃ i, V i b o) ∨ (b < w'.heap.size ∧ w.heap.size ≤ b) := fun t b o hb => (h.ex t b o hb).2.elim (fun h' => .inr ⟨(h.ex t b o hb).1, h'⟩) .inl
    have hsameS : SameOn S w w' := fun b o hb => by
      have hlt := hS b o hb
      exact ⟨h.old.cel b o hlt (fun ⟨i, hi⟩ => (hV i b o hi).2 hb), h.old.fro b o hlt (fun ⟨i, hi⟩ => (hV i b o hi).2 hb)⟩
    have hm := h.backs (u := u) hsameS h.sub hA (fun j v hj => by show celF (vs.getD (0 + j) undef) = _; rw [Nat.zero_add, List.getD, hj]; rfl) (fun j v cs hj hc => by
      have := h.par _ (kpM_mem (p := p) (i := 0) hc)
      rw [this]
      show vs.getD (0 + j) undef = v
      rw [Nat.zero_add, List.getD, hj]; rfl) hback
    refine ⟨_, hrun2, _, rfl, h.old, fun b o => ∃ t, t ∉ sles (slM 0 A pl) ∧ φ' t b o, fun i => slX φ' (slM 0 A pl)[i]?, fun b o => (sh = true ∧ S' b o) ∨ (S' b o ∧ ((∃ i, V i b o) ∨ w.heap.size ≤ b)), fun b o ⟨t, _, hb⟩ => hex t b o hb, fun i b o hb => ?_, fun b o hb => ?_, fun i i' hne b o hb hb' => ?_, fun i b o ⟨t, ht, hb⟩ hb' => ?_, fun b o ⟨t, _, hb⟩ hb' => h.disS t b o hb (hb'.elim (·.2) (·.1)), fun i b o hb hb' => ?_, ?_⟩
    · obtain ⟨t, -, hb⟩ := slX_in hb
      exact hex t b o hb
    · rcases hb with ⟨h1, h2⟩ | ⟨h1, h2⟩
      · rcases (h.sup b o h2).2 with h3 | h3 | h3
        · exact .inl ⟨h1, h3⟩
        · exact .inr (.inr ⟨(h.sup b o h2).1, h3⟩)
        · exact .inr (.inl h3)
      · rcases h2 with h2 | h2
        · exact .inr (.inl h2)
        · exact .inr (.inr ⟨(h.sup b o h1).1, h2⟩)
    · obtain ⟨t, e1, hb⟩ := slX_in hb
      obtain ⟨t', e2, hb'⟩ := slX_in hb'
      exact h.dis t t' (okSl_spec hok i i' t t' hne e1 e2) b o hb hb'
    · obtain ⟨t', e2, hb'⟩ := slX_in hb'
      exact h.dis t t' (fun e => ht (by rw [e]; exact sles_mem e2)) b o hb hb'
    · obtain ⟨t, -, hb⟩ := slX_in hb
      exact h.disS t b o hb (hb'.elim (·.2) (·.1))
    · have hk : HoldOk w' NO (kdOfSh shs) cs.length (if h : vs'.toArray.size = 1 then vs'.toArray[0] else .tuple vs'.toArray) ∧ Row w' S' (fun b o => ∃ t, t ∉ sles (slM 0 A pl) ∧ φ' t b o) cs (topU w' (kdOfSh shs) (if h : vs'.toArray.size = 1 then vs'.toArray[0] else .tuple vs'.toArray)) := by
        match shs, hT, hone, hL with
        | [], hT, _, hL =>
          cases vs' with
          | cons _ _ => exact hT.elim
          | nil =>
            have : cs = [] := List.eq_nil_of_length_eq_zero (by simpa [shLen] using hL.symm)
            subst this
            exact ⟨⟨_, rfl, trivial, rfl⟩, Row.nil _ _ _ _⟩
        | [ag], _, hone, _ =>
          obtain ⟨v, rfl, hv⟩ := hone ag rfl
          have := hv.slot (F := F') (tv := tvs a')
          obtain ⟨X1, Y, h1, h2, h3, h4, h5⟩ := this
          refine ⟨?_, h5.mono (fun _ _ h => h) h2⟩
          cases ag <;> exact h4
        | ag :: ag2 :: sh, hT, _, hL =>
          have hsz : ¬ vs'.toArray.size = 1 := by
            match vs', hT with
            | [], hT => simp
            | [v], hT => cases ag <;> cases ag2 <;> exact hT.2.elim
            | _ :: _ :: _, _ => simp
          rw [dif_neg hsz]
          refine ⟨⟨_, rfl, hT, hL⟩, hrow.congr fun j hj => ?_⟩
          simp only [topU, kdOfSh, tupCells, hcells]
          simp [List.getD, hj]
      refine ⟨hk.1, ?_, hm.mono fun b o hb => ?_⟩
      · rcases hsh with h1 | h1
        · exact hk.2.mono (fun b o hb => .inl ⟨h1, hb⟩) (fun _ _ h => h)
        · exact (hk.2.fresh h1).mono (fun _ _ h => h.elim) (fun _ _ h => h)
      · rcases (h.sup b o hb).2 with h3 | h3 | h3
        · exact .inl h3
        · exact .inr (.inr ⟨hb, .inr h3⟩)
        · exact .inr (.inr ⟨hb, .inl h3⟩)
  cases e with
  | normal => exact fin he
  | ret => exact fin he
  | _ => exact he.elim
end
end Go.Proofs.YthinjmmlpgjhnaaGreat.Ab
