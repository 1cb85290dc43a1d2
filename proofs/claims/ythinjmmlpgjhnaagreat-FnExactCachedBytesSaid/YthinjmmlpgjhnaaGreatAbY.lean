/- Abstract runs of code, and of a whole function that only reads what it is handed. No condition. -/
import Derived.Test.YthinjmmlpgjhnaaGreatAbH
import Derived.Deep.LoopGhost
namespace Go.Proofs.YthinjmmlpgjhnaaGreat.Ab
open Go.RowKit

/-- A frame given as a list. -/
def lay : List (Nat × AV) → Nat → AV
  | [], _ => .dead
  | p :: l, t => bif Nat.beq t p.1 then p.2 else lay l t
/-- Less is known. -/
def wkC : C → C → Prop
  | _, .x => True
  | .z, .s .imm rows => rows = []
  | .z, .s .own rows => rows = []
  | .s (.tag _) rows, .s .own rows' => rows = rows'
  | c, c' => c = c'
def wkL : List C → List C → Prop
  | [], [] => True
  | c :: cs, c' :: cs' => wkC c c' ∧ wkL cs cs'
  | _, _ => False
/-- The slot t of F1 knows no more than F does. -/
def wkAt (F F1 : Nat → AV) (t : Nat) (av : AV) : Prop :=
  match av with
  | .dead => True
  | .hold k cs => (match F t with | .hold k' cs' => k' = k ∧ wkL cs' cs | _ => False)
  | .ref t' off st => F t = .ref t' off st ∧ F1 t' = F t'
  | .bor t' off st ag => F t = .bor t' off st ag ∧ F1 t' = F t'
  | .iref r off => F t = .iref r off
  | .fn f caps => F t = .fn f caps
def wkLay (F F1 : Nat → AV) : List (Nat × AV) → Prop
  | [] => True
  | p :: l => wkAt F F1 p.1 p.2 ∧ wkLay F F1 l
def Wk (F : Nat → AV) (L : List (Nat × AV)) : Prop := wkLay F (lay L) L
theorem wkLay_spec {F F1 : Nat → AV} : ∀ {L : List (Nat × AV)}, wkLay F F1 L → ∀ t, lay L t = .dead ∨ wkAt F F1 t (lay L t)
  | [], _, t => .inl rfl
  | p :: L, h, t => by
    simp only [lay]
    cases hb : Nat.beq t p.1 with
    | true =>
      have := Nat.eq_of_beq_eq_true hb
      subst this
      exact .inr h.1
    | false => exact wkLay_spec h.2 t

def scIs (F : Nat → AV) (x : Operand) (K : Bool → Prop) : Prop := scA F x fun v => match v with | .bool b => K b | _ => False
def exN (K : (Nat → AV) → Prop) (Q : Exit → (Nat → AV) → Prop) : Exit → (Nat → AV) → Prop := fun e F => match e with | .normal => K F | e => Q e F
def exB (id : Nat) (Q : Exit → (Nat → AV) → Prop) : Exit → (Nat → AV) → Prop := fun e F => match e with | .exit i => bif Nat.beq i id then Q .normal F else Q (.exit i) F | e => Q e F
/-- A loop: its heads' frames, what holds there, a measure. -/
inductive Nx (ι : Type) (L : ι → List (Nat × AV)) (inv : ι → Prop) (μ : ι → Nat) (i : ι) (F : Nat → AV) : Prop
  | mk_ (h : ∃ i', inv i' ∧ μ i' < μ i ∧ Wk F (L i'))
theorem Nx.mk {ι : Type} {L : ι → List (Nat × AV)} {inv : ι → Prop} {μ : ι → Nat} {i : ι} {F : Nat → AV} (i' : ι) (h1 : inv i') (h2 : μ i' < μ i) (h3 : Wk F (L i')) : Nx ι L inv μ i F := by refine .mk_ ?_; exact ⟨i', h1, h2, h3⟩
theorem Nx.out {ι : Type} {L : ι → List (Nat × AV)} {inv : ι → Prop} {μ : ι → Nat} {i : ι} {F : Nat → AV} (h : Nx ι L inv μ i F) : ∃ i', inv i' ∧ μ i' < μ i ∧ Wk F (L i') := by obtain ⟨h⟩ := h; exact h
inductive Lp (body : (Exit → (Nat → AV) → Prop) → (Nat → AV) → Prop) (Q : Exit → (Nat → AV) → Prop) (F : Nat → AV) : Prop
  | mk_ (h : ∃ (ι : Type) (L : ι → List (Nat × AV)) (inv : ι → Prop) (μ : ι → Nat) (i0 : ι), Wk F (L i0) ∧ inv i0 ∧ ∀ i, inv i → body (exN (Nx ι L inv μ i) Q) (lay (L i)))
theorem Lp.mk {body : (Exit → (Nat → AV) → Prop) → (Nat → AV) → Prop} {Q : Exit → (Nat → AV) → Prop} {F : Nat → AV} {ι : Type} (L : ι → List (Nat × AV)) (inv : ι → Prop) (μ : ι → Nat) (i0 : ι) (h0 : Wk F (L i0)) (h1 : inv i0) (h2 : ∀ i, inv i → body (exN (Nx ι L inv μ i) Q) (lay (L i))) : Lp body Q F := by refine .mk_ ?_; exact ⟨ι, L, inv, μ, i0, h0, h1, h2⟩
theorem Lp.out {body : (Exit → (Nat → AV) → Prop) → (Nat → AV) → Prop} {Q : Exit → (Nat → AV) → Prop} {F : Nat → AV} (h : Lp body Q F) : ∃ (ι : Type) (L : ι → List (Nat × AV)) (inv : ι → Prop) (μ : ι → Nat) (i0 : ι), Wk F (L i0) ∧ inv i0 ∧ ∀ i, inv i → body (exN (Nx ι L inv μ i) Q) (lay (L i)) := by obtain ⟨h⟩ := h; exact h
/-- A drawn region: see the text on orders. -/
def aw (P : Program) (TE : Nat → Option TI) (N : Lim) (D : Nat → Array Oper → ((Nat → AV) → Prop) → (Nat → AV) → Prop) : Code → (Exit → (Nat → AV) → Prop) → (Nat → AV) → Prop
  | .skip, Q, F => Q .normal F
  | .region id ops draw, Q, F => bif draw then D id ops (Q .normal) F else runA P TE N ops ops.toList (Q .normal) F
  | .seq x y, Q, F => aw P TE N D x (exN (aw P TE N D y Q) Q) F
  | .cond c x y, Q, F => scIs F c fun b => Bf b (aw P TE N D x Q F) (aw P TE N D y Q F)
  | .block id c, Q, F => aw P TE N D c (exB id Q) F
  | .loop c, Q, F => Lp (aw P TE N D c) Q F
  | .exit id, Q, F => Q (.exit id) F
  | .ret, Q, F => Q .ret F
  | _, _, _ => False

section
variable {P : Program} {w0 w w1 : World} {M S0 S : CellSet} {N : Lim} {φ : Nat → CellSet} {F : Nat → AV} {a : Act} {TE : Nat → Option TI}

theorem wkC_rep {Y : CellSet} {c c' : C} {v : Value} (hc : wkC c c') (h : Rep w S Y c v) : Rep w S Y c' v := by
  unfold wkC at hc
  split at hc
  · exact .x _ _ h.one
  · subst hc
    obtain ⟨b, rfl⟩ := rep_z h
    exact .nil _ _ _ trivial
  · subst hc
    obtain ⟨b, rfl⟩ := rep_z h
    exact .nil _ _ _ trivial
  · subst hc
    rename_i v' rows
    generalize he : C.s (.tag v') rows = c0 at h
    cases h with
    | nil F o a ho => cases he; exact .nil _ _ _ trivial
    | imm => cases he
    | own F o g k n cap rows u f ho hn hk hcap hpos hF hu hf hd hc => cases he; exact .own _ .own g k n cap rows u f trivial hn hk hcap hpos hF hu hf hd hc
    | _ => cases he
  · subst hc; exact h
theorem wkL_get : ∀ {cs cs' : List C}, wkL cs cs' → cs.length = cs'.length ∧ ∀ (j : Nat) (c' : C), cs'[j]? = some c' → ∃ c, cs[j]? = some c ∧ wkC c c'
  | [], [], _ => ⟨rfl, fun j c' h => by simp at h⟩
  | c :: cs, c' :: cs', h => by
    obtain ⟨h1, h2⟩ := wkL_get h.2
    refine ⟨by simp [h1], fun j y hj => ?_⟩
    cases j with
    | zero => simp at hj; subst hj; exact ⟨c, rfl, h.1⟩
    | succ j => exact h2 j y (by simpa using hj)
  | [], _ :: _, h => h.elim
  | _ :: _, [], h => h.elim
theorem wkL_row {Y : CellSet} {cs cs' : List C} {u : Nat → Value} (hc : wkL cs cs') (h : Row w S Y cs u) : Row w S Y cs' u := by
  obtain ⟨hl, hg⟩ := wkL_get hc
  obtain ⟨f, h1, h2, h3⟩ := h
  exact ⟨f, fun j c hj => by obtain ⟨c0, e1, e2⟩ := hg j c hj; exact wkC_rep e2 (h1 j c0 e1), fun j hj => h2 j (by omega), fun j j' hj hj' => h3 j j' (by omega) (by omega)⟩
theorem St.weaken {L : List (Nat × AV)} (h : St w0 M S0 N F a w) (hw : Wk F L) : St w0 M S0 N (lay L) a w := by
  obtain ⟨S, φ, h⟩ := h
  refine ⟨S, φ, fun t => ?_, h.dis, h.disS, h.ex, h.sub, h.sup, h.old, h.size, h.defers, h.par⟩
  rcases wkLay_spec hw t with hd | hd
  · rw [hd]; trivial
  · have hs := h.slot t
    cases hav : lay L t with
    | dead => trivial
    | hold k cs =>
      rw [hav] at hd
      simp only [wkAt] at hd
      split at hd
      case h_2 => exact hd.elim
      rename_i k' cs' hF
      obtain ⟨rfl, hcs⟩ := hd
      rw [hF] at hs
      obtain ⟨X1, Y, h1, h2, h3, h4, h5⟩ := hs
      exact ⟨X1, Y, h1, h2, h3, by rw [← (wkL_get hcs).1]; exact h4, wkL_row hcs h5⟩
    | ref t' off st =>
      rw [hav] at hd
      rw [hd.1] at hs
      obtain ⟨k, cs, r, j, g, o, h1, h2⟩ := hs
      exact ⟨k, cs, r, j, g, o, by rw [hd.2]; exact h1, h2⟩
    | bor t' off st ag =>
      rw [hav] at hd
      rw [hd.1] at hs
      obtain ⟨k, cs, r, j, h1, h2⟩ := hs
      exact ⟨k, cs, r, j, by rw [hd.2]; exact h1, h2⟩
    | iref r off =>
      rw [hav] at hd
      have hd : F t = .iref r off := hd
      rw [hd] at hs; exact hs
    | fn f caps =>
      rw [hav] at hd
      have hd : F t = .fn f caps := hd
      rw [hd] at hs; exact hs

/-- Every drawn region passes the check ck. -/
def codeOk (ck : Nat → Array Oper → Bool) : Code → Bool
  | .region id ops draw => bif draw then ck id ops else true
  | .seq x y => codeOk ck x && codeOk ck y
  | .cond _ x y => codeOk ck x && codeOk ck y
  | .block _ c => codeOk ck c
  | .loop c => codeOk ck c
  | _ => true
/-- What D says of drawn regions is true. -/
def DrawOk (P : Program) (N : Lim) (ck : Nat → Array Oper → Bool) (D : Nat → Array Oper → ((Nat → AV) → Prop) → (Nat → AV) → Prop) : Prop :=
  ∀ (id : Nat) (ops : Array Oper), ck id ops = true → ∀ (K : (Nat → AV) → Prop) (w0 : World) (M S0 : CellSet) (F : Nat → AV) (a : Act) (w : World) (Q : Exit → Act → World → Prop), D id ops K F → St w0 M S0 N F a w → (∀ F' a' w', K F' → St w0 M S0 N F' a' w' → Q .normal a' w') → (Code.region id ops true).wp P Q a w
theorem aw_sound (hTE : ∀ t i, TE t = some i → TOk P t i) {D : Nat → Array Oper → ((Nat → AV) → Prop) → (Nat → AV) → Prop} {ck : Nat → Array Oper → Bool} (hD : DrawOk P N ck D) : ∀ (c : Code), codeOk ck c = true → ∀ (QA : Exit → (Nat → AV) → Prop) (Q : Exit → Act → World → Prop) (F : Nat → AV) (a : Act) (w : World),
    aw P TE N D c QA F → St w0 M S0 N F a w → (∀ e F' a' w', QA e F' → St w0 M S0 N F' a' w' → Q e a' w') → c.wp P Q a w
  | .skip, _, QA, Q, F, a, w, hp, hs, hq => wp_skip (hq _ _ _ _ hp hs)
  | .region id ops draw, hc, QA, Q, F, a, w, hp, hs, hq => by
    cases draw with
    | false => exact wp_region_list (run_list hTE (fun F' a' w' => hq .normal F' a' w') _ F a w hp hs)
    | true => exact hD id ops hc _ w0 M S0 F a w Q hp hs (fun F' a' w' => hq .normal F' a' w')
  | .seq x y, hc, QA, Q, F, a, w, hp, hs, hq => by
    simp only [codeOk, Bool.and_eq_true] at hc
    refine wp_seq (aw_sound hTE hD x hc.1 _ _ F a w hp hs fun e F' a' w' he hs' => ?_)
    cases e with
    | normal => exact aw_sound hTE hD y hc.2 QA Q F' a' w' he hs' hq
    | _ => exact hq _ F' a' w' he hs'
  | .cond c x y, hck, QA, Q, F, a, w, hp, ⟨S, φ, h⟩, hq => by
    simp only [codeOk, Bool.and_eq_true] at hck
    obtain ⟨hc, -⟩ := h.scalar hp
    cases hv : a.eval c <;> rw [hv] at hc <;> try exact hc.elim
    rename_i b
    exact wp_cond_split hv (fun hb => aw_sound hTE hD x hck.1 QA Q F a w (by subst hb; exact Bf.out hc) ⟨S, φ, h⟩ hq) (fun hb => aw_sound hTE hD y hck.2 QA Q F a w (by subst hb; exact Bf.out hc) ⟨S, φ, h⟩ hq)
  | .block id c, hc, QA, Q, F, a, w, hp, hs, hq => by
    refine wp_block (aw_sound hTE hD c hc _ _ F a w hp hs fun e F' a' w' he hs' => ?_)
    cases e with
    | exit i =>
      simp only [exB] at he
      simp only [Exit.inBlock]
      by_cases hi : i = id
      · subst hi
        rw [if_pos rfl]
        simp only [Nat.beq_refl, cond_true] at he
        exact hq _ F' a' w' he hs'
      · have hb : Nat.beq i id = false := by rw [← Bool.not_eq_true, Nat.beq_eq]; exact hi
        rw [hb] at he
        rw [if_neg hi]
        exact hq _ F' a' w' he hs'
    | _ => exact hq _ F' a' w' he hs'
  | .loop c, hc, QA, Q, F, a, w, hp, hs, hq => by
    obtain ⟨ι, L, inv, μ, i0, h0, hi0, hround⟩ := Lp.out hp
    refine wp_loop_ghost (fun n a w => ∃ i, μ i = n ∧ inv i ∧ St w0 M S0 N (lay (L i)) a w) (μ i0) ⟨i0, rfl, hi0, hs.weaken h0⟩ fun n a w ⟨i, hn, hi, hs⟩ => ?_
    refine aw_sound hTE hD c hc _ _ (lay (L i)) a w (hround i hi) hs fun e F' a' w' he hs' => ?_
    cases e with
    | normal =>
      obtain ⟨i', h1, h2, h3⟩ := Nx.out he
      exact ⟨μ i', by omega, i', rfl, h1, hs'.weaken h3⟩
    | _ => exact hq _ F' a' w' he hs'
  | .exit id, _, QA, Q, F, a, w, hp, hs, hq => wp_exit (hq _ _ _ _ hp hs)
  | .ret, _, QA, Q, F, a, w, hp, hs, hq => wp_ret (hq _ _ _ _ hp hs)
  | .rangeFunc .., _, _, _, _, _, _, hp, _, _ => hp.elim
  | .scope _, _, _, _, _, _, _, hp, _, _ => hp.elim
  | .label _, _, _, _, _, _, _, hp, _, _ => hp.elim
  | .goto _, _, _, _, _, _, _, hp, _, _ => hp.elim
  | .refuse _, _, _, _, _, _, _, hp, _, _ => hp.elim
end
end Go.Proofs.YthinjmmlpgjhnaaGreat.Ab
