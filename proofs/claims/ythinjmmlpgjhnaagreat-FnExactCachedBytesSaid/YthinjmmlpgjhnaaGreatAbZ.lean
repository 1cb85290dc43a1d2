/- Calls with arguments that are lent: what they may write comes back. No condition. -/
import Derived.Test.YthinjmmlpgjhnaaGreatAbJ
import Derived.Test.YthinjmmlpgjhnaaGreatAbK
namespace Go.Proofs.YthinjmmlpgjhnaaGreat.Ab
open Go.RowKit

/-- What is handed to a call: a value that is only read; a value whose slices may be written; a pointer to cells that may be written. -/
inductive MA where
  | val (ag : Option Nat) (cs : List C)
  | mut (ag : Option Nat) (cs : List C)
  | ptr (cs : List C)
def MAOk (w : World) (S V : CellSet) : MA → Value → Prop
  | .val ag cs, v => ValOk w S NO ag cs v
  | .mut ag cs, v => ValOk w S V ag cs v
  | .ptr cs, v => ∃ X1 Y : CellSet, (∀ b o, X1 b o → V b o) ∧ (∀ b o, Y b o → V b o) ∧ (∀ b o, X1 b o → ¬ Y b o) ∧ HoldOk w X1 .box cs.length v ∧ Row w S Y cs (topU w .box v)
def MAs (w : World) (S : CellSet) : (Nat → CellSet) → List MA → List Value → Prop
  | _, [], [] => True
  | V, m :: ms, v :: vs => MAOk w S (V 0) m v ∧ MAs w S (fun i => V (i + 1)) ms vs
  | _, _, _ => False
/-- What became of what was lent. -/
def MPOk (w : World) (S V : CellSet) : MA → Value → Prop
  | .val _ _, _ => True
  | m, v => MAOk w S V m v
def MPs (w : World) (S : CellSet) : (Nat → CellSet) → List MA → List Value → Prop
  | _, [], [] => True
  | V, m :: ms, v :: vs => MPOk w S (V 0) m v ∧ MPs w S (fun i => V (i + 1)) ms vs
  | _, _, _ => False
/-- Called with A, function f returns rcs, held as k says; what was lent is as B says. sh: the answer may share memory with what was only read. -/
structure CallsM (P : Program) (f : Nat) (sh : Bool) (A B : List MA) (k : Kd) (rcs : List C) : Prop where
  has : Has P f
  run : ∀ (w : World) (S : CellSet) (V : Nat → CellSet) (vs : List Value), (∀ b o, S b o → b < w.heap.size) → (∀ i b o, V i b o → b < w.heap.size ∧ ¬ S b o) → (∀ i i', i ≠ i' → ∀ b o, V i b o → ¬ V i' b o) → MAs w S V A vs →
    Calls P f vs.toArray w fun e w1 => ∃ v, e = .returned v ∧ Keeps (fun b o => ∃ i, V i b o) w w1 ∧ ∃ (X : CellSet) (V' : Nat → CellSet) (S1 : CellSet),
      (∀ b o, X b o → (∃ i, V i b o) ∨ (b < w1.heap.size ∧ w.heap.size ≤ b)) ∧ (∀ i b o, V' i b o → (∃ i, V i b o) ∨ (b < w1.heap.size ∧ w.heap.size ≤ b)) ∧
      (∀ b o, S1 b o → (sh = true ∧ S b o) ∨ (∃ i, V i b o) ∨ (b < w1.heap.size ∧ w.heap.size ≤ b)) ∧
      (∀ i i', i ≠ i' → ∀ b o, V' i b o → ¬ V' i' b o) ∧ (∀ i b o, X b o → ¬ V' i b o) ∧ (∀ b o, X b o → ¬ S1 b o) ∧ (∀ i b o, V' i b o → ¬ S1 b o) ∧
      HoldOk w1 NO k rcs.length v ∧ Row w1 S1 X rcs (topU w1 k v) ∧ MPs w1 (fun b o => S b o ∨ S1 b o) V' B vs

/-- Where what is lent lies. -/
inductive Plc where
  | no
  | at_ (t off : Nat) (st : Steps)
  | box (t : Nat)
/-- Cells of a place below the top, taken out. -/
inductive Lq (bs : List C) (off : Nat) (st : Steps) (n : Nat) (K : List C → List C → Prop) : Prop
  | mk_ (h : ∃ r j cs bs', rowAt bs off st = some (r, j) ∧ ownAt bs off st ∧ j + n ≤ r.length ∧ cs = takeA r j n ∧ bs' = updAt bs off st (splice r j (List.replicate n .x)) ∧ K cs bs')
theorem Lq.one {bs cs bs' : List C} {off i k j n : Nat} {K : List C → List C → Prop} {o : Own} {rows : List (List C)} {r : List C} (h1 : bs[off]? = some (.s o rows)) (ho : o.mine = true) (h2 : rows[i]? = some r) (h3 : r.length = k) (h4 : j + n ≤ k)
    (h5 : cs = takeA r j n) (h6 : bs' = bs.set off (.s o (rows.set i (splice r j (List.replicate n .x))))) (hK : K cs bs') : Lq bs off [(i, k, j)] n K := by
  have hoi : o ≠ .imm := fun e => by subst e; cases ho
  refine .mk_ ?_
  exact ⟨r, j, cs, bs', by simp [rowAt, h1, h2, h3], by simp [ownAt, h1, h2, hoi], by omega, h5, by rw [h6]; simp [updAt, h1, h2], hK⟩
theorem Lq.out {bs : List C} {off : Nat} {st : Steps} {n : Nat} {K : List C → List C → Prop} (h : Lq bs off st n K) : ∃ r j, rowAt bs off st = some (r, j) ∧ ownAt bs off st ∧ j + n ≤ r.length ∧ K (takeA r j n) (updAt bs off st (splice r j (List.replicate n .x))) := by
  obtain ⟨h⟩ := h; obtain ⟨r, j, cs, bs', h1, h2, h3, rfl, rfl, h4⟩ := h; exact ⟨r, j, h1, h2, h3, h4⟩
def lendAt (F : Nat → AV) (t off : Nat) (st : Steps) (n : Nat) (K : (Nat → AV) → List C → Prop) : Prop :=
  match F t with
  | .hold k bs => (match st with
    | [] => bif Nat.ble (off + n) bs.length then fc (takeA bs off n) fun cs => fc (splice bs off (List.replicate n .x)) fun bs' => K (updH F t k bs') cs else False
    | s :: st => Lq bs off (s :: st) n fun cs bs' => K (updH F t k bs') cs)
  | _ => False
def lendP : List (Operand × Nat) → ((Nat → AV) → List (MA × Plc) → Prop) → (Nat → AV) → Prop
  | [], K, F => K F []
  | (_, 0) :: xs, K, F => lendP xs (fun F' l => K F' ((.val none [], .no) :: l)) F
  | (x, 1) :: xs, K, F => (match x with
    | .tmp s => (match F s with
      | .hold .one _ => lendAt F s 0 [] 1 fun F1 cs => lendP xs (fun F' l => K F' ((.mut none cs, .at_ s 0 []) :: l)) F1
      | .hold .agg cs0 => lendAt F s 0 [] cs0.length fun F1 cs => lendP xs (fun F' l => K F' ((.mut (some cs0.length) cs, .at_ s 0 []) :: l)) F1
      | .bor t off st ag => lendAt F t off st (ag.getD 1) fun F1 cs => lendP xs (fun F' l => K F' ((.mut ag cs, .at_ t off st) :: l)) F1
      | _ => False)
    | _ => False)
  | (x, _ + 2) :: xs, K, F => (match x with
    | .tmp s => (match F s with
      | .ref t 0 [] => (match F t with | .hold .box cs => lendP xs (fun F' l => K F' ((.ptr cs, .box t) :: l)) (put F t .dead) | _ => False)
      | .hold .box cs => lendP xs (fun F' l => K F' ((.ptr cs, .box s) :: l)) (put F s .dead)
      | _ => False)
    | _ => False)

/- tags off, and on again -/
def utC : C → C
  | .s (.tag _) rows => .s .own rows
  | c => c
def utL : List C → List C
  | [] => []
  | c :: cs => utC c :: utL cs
def utM : MA → MA
  | .mut ag cs => .mut ag (utL cs)
  | m => m
def rtC : C → C → C
  | .s (.tag z) _, .s .own rows => .s (.tag z) rows
  | _, o => o
def rtL : List C → List C → List C
  | c :: cs, o :: os => rtC c o :: rtL cs os
  | _, os => os
def csM : MA → List C
  | .val _ cs => cs
  | .mut _ cs => cs
  | .ptr cs => cs
theorem utL_map : ∀ (cs : List C), utL cs = cs.map utC
  | [] => rfl
  | c :: cs => by simp [utL, utL_map cs]
theorem rtL_len : ∀ (cs os : List C), (rtL cs os).length = os.length
  | [], os => by cases os <;> rfl
  | c :: cs, [] => rfl
  | c :: cs, o :: os => by simp [rtL, rtL_len cs os]
theorem rtL_get : ∀ {cs os : List C} {j : Nat} {c' : C}, (rtL cs os)[j]? = some c' → ∃ o, os[j]? = some o ∧ (c' = o ∨ ∃ z r rows, cs[j]? = some (.s (.tag z) r) ∧ o = .s .own rows ∧ c' = .s (.tag z) rows)
  | [], os, j, c', h => by
    have : rtL [] os = os := by cases os <;> rfl
    rw [this] at h
    exact ⟨c', h, .inl rfl⟩
  | c :: cs, [], j, c', h => by simp [rtL] at h
  | c :: cs, o :: os, 0, c', h => by
    simp only [rtL, List.getElem?_cons_zero, Option.some.injEq] at h
    refine ⟨o, rfl, ?_⟩
    unfold rtC at h
    split at h
    · rename_i z r rows
      exact .inr ⟨z, r, rows, rfl, rfl, h.symm⟩
    · exact .inl h.symm
  | c :: cs, o :: os, j + 1, c', h => by
    simp only [rtL, List.getElem?_cons_succ] at h ⊢
    exact rtL_get h
theorem Rep.ut {w : World} {S Y : CellSet} {c : C} {v : Value} (h : Rep w S Y c v) : Rep w S Y (utC c) v := by
  cases c with
  | s o rows =>
    cases o with
    | tag z =>
      cases h with
      | nil _ o a ho => exact .nil _ _ _ trivial
      | own _ o g k n cap rows u f ho hn hk hcap hpos hF hu hf hd hc => exact .own _ _ g k n cap rows u f trivial hn hk hcap hpos hF hu hf hd hc
    | _ => exact h
  | _ => exact h
theorem Rep.tagOf {w : World} {S Y : CellSet} {z v : Value} {rows : List (List C)} (h : Rep w S Y (.s (.tag z) rows) v) : z = v := by
  cases h with
  | nil _ o a ho => exact ho
  | own _ o g k n cap rows u f ho hn hk hcap hpos hF hu hf hd hc => exact ho
theorem Rep.rt {w : World} {S Y : CellSet} {z v : Value} {rows : List (List C)} (h : Rep w S Y (.s .own rows) v) (hz : z = v) : Rep w S Y (.s (.tag z) rows) v := by
  cases h with
  | nil _ o a ho => exact .nil _ _ _ hz
  | own _ o g k n cap rows u f ho hn hk hcap hpos hF hu hf hd hc => exact .own _ _ g k n cap rows u f hz hn hk hcap hpos hF hu hf hd hc
theorem Row.ut {w : World} {S Y : CellSet} {cs : List C} {u : Nat → Value} (h : Row w S Y cs u) : Row w S Y (utL cs) u := by
  obtain ⟨f, h1, h2, h3⟩ := h
  rw [utL_map]
  refine ⟨f, fun j c hj => ?_, fun j hj => h2 j (by simpa using hj), fun j j' hj hj' => h3 j j' (by simpa using hj) (by simpa using hj')⟩
  rw [List.getElem?_map] at hj
  cases hc : cs[j]? with
  | none => rw [hc] at hj; cases hj
  | some c0 =>
    rw [hc] at hj
    simp only [Option.map_some, Option.some.injEq] at hj
    subst hj
    exact (h1 j c0 hc).ut
theorem Row.rt {w w1 : World} {S S' Y Y' : CellSet} {cs os : List C} {u u' : Nat → Value} (h : Row w S Y cs u) (h' : Row w1 S' Y' os u') (hu : ∀ d, d < os.length → u' d = u d) : Row w1 S' Y' (rtL cs os) u' := by
  obtain ⟨f, h1, h2, h3⟩ := h
  obtain ⟨f', h1', h2', h3'⟩ := h'
  refine ⟨f', fun j c hj => ?_, fun j hj => h2' j (by rwa [rtL_len] at hj), fun j j' hj hj' => h3' j j' (by rwa [rtL_len] at hj) (by rwa [rtL_len] at hj')⟩
  obtain ⟨o, ho, h4⟩ := rtL_get hj
  have hjl := (List.getElem?_eq_some_iff.1 ho).1
  rcases h4 with rfl | ⟨z, r, rows, e1, rfl, rfl⟩
  · exact h1' j _ ho
  · exact (h1' j _ ho).rt ((h1 j _ e1).tagOf.trans (hu j hjl).symm)
/-- The arguments that are only read. -/
def valsP (F : Nat → AV) : List (MA × Plc) → List Operand → (Bool → List MA → Prop) → Prop
  | [], [], K => K true []
  | (_, .no) :: l, x :: xs, K => valA F (evA F x) fun ag cs => valsP F l xs fun b A => bif noOwn cs then K b (.val ag cs :: A) else K false (.val ag (fzL cs) :: A)
  | (m, .at_ _ _ _) :: l, _ :: xs, K => valsP F l xs fun b A => K b (utM m :: A)
  | (m, .box _) :: l, _ :: xs, K => valsP F l xs fun b A => K b (m :: A)
  | _, _, _ => False
def setH (F : Nat → AV) (t : Nat) (av : AV) : Nat → AV := fun s => bif Nat.beq s t then av else F s
def Plc.slot : Plc → List Nat
  | .no => []
  | .at_ t _ _ => [t]
  | .box t => [t]
def distP : List (MA × Plc) → Bool
  | [] => true
  | q :: l => (q.2.slot.all fun t => l.all fun q' => !q'.2.slot.any (Nat.beq t)) && distP l
/-- What was lent, given back. -/
def restA : List (MA × Plc) → List MA → ((Nat → AV) → Prop) → (Nat → AV) → Prop
  | [], [], K, F => K F
  | (_, .no) :: l, _ :: B, K, F => restA l B K F
  | (m, .at_ t off st) :: l, .mut _ out :: B, K, F => (match F t with
    | .hold k bs => (match st with
      | [] => bif Nat.ble (off + out.length) bs.length then fc (splice bs off (rtL (csM m) out)) fun bs' => restA l B K (updH F t k bs') else False
      | s :: st => Pu bs off (s :: st) out fun bs' => restA l B K (updH F t k bs'))
    | _ => False)
  | (_, .box t) :: l, .ptr out :: B, K, F => (match F t with
    | .dead => restA l B K (setH F t (.hold .box out))
    | _ => False)
  | _, _, _, _ => False
def frMs : List MA → Prop
  | [] => True
  | .val _ _ :: B => frMs B
  | .mut _ cs :: B => frL cs ∧ frMs B
  | .ptr cs :: B => frL cs ∧ frMs B
/-- A call's answer, where something is lent. -/
inductive ClM (P : Program) (f : Nat) (b : Bool) (A : List MA) (K : Kd → List C → List MA → Prop) : Prop
  | mk_ (h : ∃ sh B k rcs, CallsM P f sh A B k rcs ∧ (b = true ∨ (sh = false ∧ frMs B)) ∧ K k rcs B)
theorem ClM.mk {P : Program} {f : Nat} {b sh : Bool} {A B : List MA} {k : Kd} {rcs : List C} {K : Kd → List C → List MA → Prop} (h : CallsM P f sh A B k rcs) (hb : b = true ∨ (sh = false ∧ frMs B)) (hK : K k rcs B) : ClM P f b A K := by refine .mk_ ?_; exact ⟨sh, B, k, rcs, h, hb, hK⟩
theorem ClM.out {P : Program} {f : Nat} {b : Bool} {A : List MA} {K : Kd → List C → List MA → Prop} (h : ClM P f b A K) : ∃ sh B k rcs, CallsM P f sh A B k rcs ∧ (b = true ∨ (sh = false ∧ frMs B)) ∧ K k rcs B := by obtain ⟨h⟩ := h; exact h
def aCallM (P : Program) (N : Lim) (F : Nat → AV) (d : Option Nat) (f : Nat) (args : List Operand) (modes : List Nat) (K : (Nat → AV) → Prop) : Prop :=
  lendP (args.zip modes) (fun F' l => bif distP l && Nat.beq args.length modes.length then valsP F' l args fun b A => ClM P f b A fun k rcs B => restA l B (fun F'' => match d with | some d => putD N F'' d (.hold k rcs) K | none => K F'') F' else False) F
section
variable {P : Program} {w0 w w1 : World} {M S0 S : CellSet} {N : Lim} {φ : Nat → CellSet} {F : Nat → AV} {a : Act} {TE : Nat → Option TI}

/-- Cells that are nobody's are from now on written by nobody. -/
theorem StX.addS (h : StX w0 M S0 N S φ F a w) {V S' : CellSet} (hV : Free w0 M S φ w V) (hSS : ∀ b o, S b o → S' b o) (hS' : ∀ b o, S' b o → S b o ∨ V b o) : StX w0 M S0 N S' φ F a w := by
  refine ⟨fun t => (h.slot t).keep (φ := φ) (fun t _ _ _ => h.slot t) (fun t _ => ⟨fun _ _ h => h, rfl, fun _ _ _ => ⟨rfl, rfl⟩⟩) (fun _ _ _ => ⟨rfl, rfl⟩) (fun _ _ _ => ⟨rfl, rfl⟩) (fun _ _ h => h) hSS, h.dis, fun t b o hb hS => ?_, h.ex, fun b o hb => hSS b o (h.sub b o hb), fun b o hb => ?_, h.old, h.size, h.defers, h.par⟩
  · rcases hS' b o hS with hS | hS
    · exact h.disS t b o hb hS
    · exact (hV b o hS).1 t hb
  · rcases hS' b o hb with hb | hb
    · exact h.sup b o hb
    · exact ⟨(hV b o hb).2.2.1, .inr (hV b o hb).2.2.2⟩
theorem setH_same (F : Nat → AV) (t : Nat) (av : AV) : setH F t av t = av := by simp [setH]
theorem setH_other (F : Nat → AV) {t s : Nat} (av : AV) (h : s ≠ t) : setH F t av s = F s := by
  have : Nat.beq s t = false := by rw [← Bool.not_eq_true, Nat.beq_eq]; exact h
  simp [setH, this]
/-- A slot of which nothing was known holds cells again. -/
theorem StX.revive (h : StX w0 M S0 N S φ F a w) {t : Nat} (hF : F t = .dead) {k : Kd} {cs : List C} {X : CellSet} (hX : Free w0 M S φ w X) (hs : SlotV w S F (tvs a) X (.hold k cs) (tvs a t)) :
    StX w0 M S0 N S (fun s => if s = t then X else φ s) (setH F t (.hold k cs)) a w := by
  have hno : ∀ s, (F s).uses t = true → SlotV w S (setH F t (.hold k cs)) (tvs a) (φ s) (F s) (tvs a s) := fun s hu => by
    have hsl := h.slot s
    cases hFs : F s with
    | dead => rw [hFs] at hu; cases hu
    | hold => rw [hFs] at hu; cases hu
    | iref => rw [hFs] at hu; cases hu
    | ref t' off st =>
      rw [hFs] at hu hsl
      have : t' = t := by simpa [AV.uses] using hu
      subst this
      obtain ⟨k, cs, r, j, g, o, h1, -⟩ := hsl
      rw [hF] at h1; cases h1
    | bor t' off st ag =>
      rw [hFs] at hu hsl
      have : t' = t := by simpa [AV.uses] using hu
      subst this
      obtain ⟨k, cs, r, j, h1, -⟩ := hsl
      rw [hF] at h1; cases h1
    | fn f caps => rw [hFs] at hsl; exact hsl
  refine ⟨fun s => ?_, fun s s' hne b o hb hb' => ?_, fun s b o hb => ?_, fun s b o hb => ?_, h.sub, h.sup, h.old, h.size, h.defers, h.par⟩
  · by_cases hst : s = t
    · subst hst
      rw [setH_same, if_pos rfl]
      exact hs
    · rw [setH_other _ _ hst, if_neg hst]
      cases hu : (F s).uses t with
      | true => exact hno s hu
      | false =>
        refine (h.slot s).keep (φ := φ) (fun t _ _ _ => h.slot t) (fun t' hu' => ?_) (fun _ _ _ => ⟨rfl, rfl⟩) (fun _ _ _ => ⟨rfl, rfl⟩) (fun _ _ h => h) (fun _ _ h => h)
        have hne : t' ≠ t := fun e => by subst e; rw [hu] at hu'; cases hu'
        exact ⟨fun k cs he => by rw [setH_other _ _ hne]; exact he, rfl, fun _ _ _ => ⟨rfl, rfl⟩⟩
  · by_cases e : s = t
    · rw [if_pos e] at hb
      by_cases e' : s' = t
      · exact hne (e.trans e'.symm)
      · rw [if_neg e'] at hb'; exact (hX b o hb).1 s' hb'
    · rw [if_neg e] at hb
      by_cases e' : s' = t
      · rw [if_pos e'] at hb'; exact (hX b o hb').1 s hb
      · rw [if_neg e'] at hb'; exact h.dis s s' hne b o hb hb'
  · split at hb
    · exact (hX b o hb).2.1
    · exact h.disS s b o hb
  · split at hb
    · exact (hX b o hb).2.2
    · exact h.ex s b o hb
def HoldBack (F F' : Nat → AV) : Prop := ∀ s k cs, F' s = .hold k cs → ∃ cs0, F s = .hold k cs0
theorem HoldBack.trans {F F' F'' : Nat → AV} (h : HoldBack F F') (h' : HoldBack F' F'') : HoldBack F F'' := fun s k cs e => by obtain ⟨c1, e1⟩ := h' s k cs e; exact h s k c1 e1
theorem holdBack_updH {t : Nat} {k : Kd} {bs bs' : List C} (hF : F t = .hold k bs) : HoldBack F (updH F t k bs') := fun s k2 cs e => by
  by_cases h : s = t
  · subst h; rw [updH_same] at e; cases e; exact ⟨bs, hF⟩
  · rw [updH_other _ _ _ h] at e
    cases hFs : F s with
    | hold k3 cs3 => rw [hFs] at e; simp only [klB] at e; cases e; exact ⟨_, rfl⟩
    | dead => rw [hFs] at e; cases e
    | iref => rw [hFs] at e; cases e
    | fn => rw [hFs] at e; cases e
    | bor t' off st ag => rw [hFs] at e; simp only [klB] at e; cases hb : Nat.beq t' t <;> rw [hb] at e <;> cases e
    | ref t' off st =>
      rw [hFs] at e
      cases st with
      | nil => cases e
      | cons s st => simp only [klB] at e; cases hb : Nat.beq t' t <;> rw [hb] at e <;> cases e
theorem holdBack_dead (t : Nat) : HoldBack F (put F t .dead) := fun s k2 cs e => by
  by_cases h : s = t
  · subst h; rw [put_same] at e; cases e
  · rw [put_other _ _ h, kl_eq] at e
    cases hu : (F s).uses t with
    | true => rw [hu] at e; cases e
    | false => rw [hu] at e; exact ⟨cs, e⟩
theorem StX.lendAt (h : StX w0 M S0 N S φ F a w) {t off n : Nat} {st : Steps} {K : (Nat → AV) → List C → Prop} (hp : Ab.lendAt F t off st n K) :
    ∃ k bs V φ' F' cs, F t = .hold k bs ∧ K F' cs ∧ cs.length = n ∧ Row w S V cs (fun d => cellv w (topU w k (tvs a t)) off st d) ∧ StX w0 M S0 N S φ' F' a w ∧ Free w0 M S φ' w V ∧ (∀ s b o, φ' s b o → φ s b o) ∧ (∀ b o, V b o → φ t b o) ∧ HoldBack F F' := by
  unfold Ab.lendAt at hp
  split at hp
  case h_2 => exact hp.elim
  rename_i k bs hF
  split at hp
  · cases hb : Nat.ble (off + n) bs.length with
    | false => rw [hb] at hp; exact hp.elim
    | true =>
      rw [hb] at hp
      simp only [cond_true, fc_eq] at hp
      have hle := Nat.le_of_ble_eq_true hb
      obtain ⟨V, φ', e1, e2, e3, e4, e5⟩ := h.lend (st := []) (off := off) (j := off) (n := n) hF rfl trivial hle
      exact ⟨k, bs, V, φ', _, _, hF, hp, by simp [takeA]; omega, e1, e2, e3, e4, e5, holdBack_updH hF⟩
  · obtain ⟨r, j, h1, h2, h3, hK⟩ := hp.out
    obtain ⟨V, φ', e1, e2, e3, e4, e5⟩ := h.lend hF h1 h2 h3
    exact ⟨k, bs, V, φ', _, _, hF, hK, by simp [takeA]; omega, e1, e2, e3, e4, e5, holdBack_updH hF⟩
/-- What has been lent, and where from. -/
def Lent1 (w : World) (S : CellSet) (a : Act) (F0 : Nat → AV) (V : CellSet) (m : MA) (p : Plc) (v : Value) : Prop :=
  match p with
  | .no => ∀ b o, ¬ V b o
  | .at_ t off st => ∃ ag cs, m = .mut ag cs ∧ ValOk w S V ag cs v ∧ ∃ k cs0, F0 t = .hold k cs0 ∧ v = mkv ag (cellv w (topU w k (tvs a t)) off st)
  | .box t => ∃ cs, m = .ptr cs ∧ MAOk w S V m v ∧ v = tvs a t
def Lents (w : World) (S : CellSet) (a : Act) (F0 : Nat → AV) : (Nat → CellSet) → List (MA × Plc) → List Value → Prop
  | _, [], [] => True
  | V, q :: l, v :: vs => Lent1 w S a F0 (V 0) q.1 q.2 v ∧ Lents w S a F0 (fun i => V (i + 1)) l vs
  | _, _, _ => False
theorem Lent1.back {F F1 : Nat → AV} {V : CellSet} {m : MA} {p : Plc} {v : Value} (h : Lent1 w S a F1 V m p v) (hb : HoldBack F F1) : Lent1 w S a F V m p v := by
  cases p with
  | no => exact h
  | at_ t off st => obtain ⟨ag, cs, h1, h2, k, cs0, h3, h4⟩ := h; obtain ⟨c1, e1⟩ := hb t k cs0 h3; exact ⟨ag, cs, h1, h2, k, c1, e1, h4⟩
  | box t => exact h
theorem Lents.back {F F1 : Nat → AV} (hb : HoldBack F F1) : ∀ {l : List (MA × Plc)} {V : Nat → CellSet} {vs : List Value}, Lents w S a F1 V l vs → Lents w S a F V l vs
  | [], _, [], _ => trivial
  | _ :: _, _, _ :: _, h => ⟨h.1.back hb, h.2.back hb⟩
  | [], _, _ :: _, h => h.elim
  | _ :: _, _, [], h => h.elim
def consV (V0 : CellSet) (V : Nat → CellSet) : Nat → CellSet
  | 0 => V0
  | i + 1 => V i
theorem StX.lendP : ∀ {xs : List (Operand × Nat)} {K : (Nat → AV) → List (MA × Plc) → Prop} {F : Nat → AV} {φ : Nat → CellSet}, StX w0 M S0 N S φ F a w → Ab.lendP xs K F →
    ∃ F' l φ' V, K F' l ∧ StX w0 M S0 N S φ' F' a w ∧ (∀ s b o, φ' s b o → φ s b o) ∧ (∀ i, Free w0 M S φ' w (V i)) ∧ (∀ i b o, V i b o → ∃ t, φ t b o) ∧ (∀ i i', i ≠ i' → ∀ b o, V i b o → ¬ V i' b o) ∧ HoldBack F F' ∧ Lents w S a F V l (xs.map fun x => a.eval x.1)
  | [], K, F, φ, h, hp => ⟨F, [], φ, fun _ => NO, hp, h, fun _ _ _ h => h, fun _ _ _ h => h.elim, fun _ _ _ h => h.elim, fun _ _ _ _ _ h => h.elim, fun s k cs e => ⟨cs, e⟩, trivial⟩
  | (x, m) :: xs, K, F, φ, h, hp => by
    -- one lent, the rest after it
    have fin : ∀ (F1 : Nat → AV) (φ1 : Nat → CellSet) (V0 : CellSet) (q : MA × Plc), Lent1 w S a F V0 q.1 q.2 (a.eval x) → StX w0 M S0 N S φ1 F1 a w → (∀ s b o, φ1 s b o → φ s b o) → Free w0 M S φ1 w V0 → (∀ b o, V0 b o → ∃ t, φ t b o) → HoldBack F F1 → Ab.lendP xs (fun F' l => K F' (q :: l)) F1 →
        ∃ F' l φ' V, K F' l ∧ StX w0 M S0 N S φ' F' a w ∧ (∀ s b o, φ' s b o → φ s b o) ∧ (∀ i, Free w0 M S φ' w (V i)) ∧ (∀ i b o, V i b o → ∃ t, φ t b o) ∧ (∀ i i', i ≠ i' → ∀ b o, V i b o → ¬ V i' b o) ∧ HoldBack F F' ∧ Lents w S a F V l (((x, m) :: xs).map fun x => a.eval x.1) := by
      intro F1 φ1 V0 q hq h1 hle hV0 hV0t hb hp
      obtain ⟨F', l, φ', V, e1, e2, e3, e4, e5, e6, e7, e8⟩ := StX.lendP h1 hp
      refine ⟨F', q :: l, φ', consV V0 V, e1, e2, fun s b o hb => hle s b o (e3 s b o hb), fun i => ?_, fun i b o hi => ?_, fun i i' hne b o hi hi' => ?_, hb.trans e7, hq, e8.back hb⟩
      · cases i with
        | zero => exact hV0.less e3
        | succ i => exact e4 i
      · cases i with
        | zero => exact hV0t b o hi
        | succ i => obtain ⟨t, ht⟩ := e5 i b o hi; exact ⟨t, hle t b o ht⟩
      · cases i with
        | zero =>
          cases i' with
          | zero => exact hne rfl
          | succ i' => obtain ⟨t, ht⟩ := e5 i' b o hi'; exact (hV0 b o hi).1 t ht
        | succ i =>
          cases i' with
          | zero => obtain ⟨t, ht⟩ := e5 i b o hi; exact (hV0 b o hi').1 t ht
          | succ i' => exact e6 i i' (fun e => hne (by rw [e])) b o hi hi'
    have box : ∀ t cs, F t = .hold .box cs → a.eval x = tvs a t → Ab.lendP xs (fun F' l => K F' ((.ptr cs, .box t) :: l)) (put F t .dead) →
        ∃ F' l φ' V, K F' l ∧ StX w0 M S0 N S φ' F' a w ∧ (∀ s b o, φ' s b o → φ s b o) ∧ (∀ i, Free w0 M S φ' w (V i)) ∧ (∀ i b o, V i b o → ∃ t, φ t b o) ∧ (∀ i i', i ≠ i' → ∀ b o, V i b o → ¬ V i' b o) ∧ HoldBack F F' ∧ Lents w S a F V l (((x, m) :: xs).map fun x => a.eval x.1) := by
      intro t cs hF hv hp
      have hs := h.slot t
      rw [hF] at hs
      obtain ⟨X1, Y, h1, h2, h3, h4, h5⟩ := hs
      refine fin _ _ (φ t) (.ptr cs, .box t) ⟨cs, rfl, ⟨X1, Y, h1, h2, h3, by rw [hv]; exact h4, by rw [hv]; exact h5⟩, hv⟩ (h.forget t) (fun s b o hb => ?_) (fun b o hb => ⟨fun s hs => ?_, h.disS t b o hb, h.ex t b o hb⟩) (fun b o hb => ⟨t, hb⟩) (holdBack_dead t) hp
      · replace hb : (if s = t then NO else φ s) b o := hb
        split at hb
        · exact hb.elim
        · exact hb
      · replace hs : (if s = t then NO else φ s) b o := hs
        split at hs
        · exact hs.elim
        · rename_i hne; exact h.dis s t hne b o hs hb
    have at_ : ∀ t off st ag n (K' : (Nat → AV) → List C → Prop), n = ag.getD 1 → (∀ k bs, F t = .hold k bs → a.eval x = mkv ag (cellv w (topU w k (tvs a t)) off st)) → Ab.lendAt F t off st n (fun F1 cs => Ab.lendP xs (fun F' l => K F' ((.mut ag cs, .at_ t off st) :: l)) F1) →
        ∃ F' l φ' V, K F' l ∧ StX w0 M S0 N S φ' F' a w ∧ (∀ s b o, φ' s b o → φ s b o) ∧ (∀ i, Free w0 M S φ' w (V i)) ∧ (∀ i b o, V i b o → ∃ t, φ t b o) ∧ (∀ i i', i ≠ i' → ∀ b o, V i b o → ¬ V i' b o) ∧ HoldBack F F' ∧ Lents w S a F V l (((x, m) :: xs).map fun x => a.eval x.1) := by
      intro t off st ag n K' hn hv hp
      obtain ⟨k, bs, V0, φ1, F1, cs, e1, e2, e3, e4, e5, e6, e7, e8, e9⟩ := h.lendAt hp
      have hvx := hv k bs e1
      exact fin F1 φ1 V0 (.mut ag cs, .at_ t off st) ⟨ag, cs, rfl, ⟨by rw [e3, hn], _, hvx, e4⟩, k, bs, e1, hvx⟩ e5 e7 e6 (fun b o hb => ⟨t, e8 b o hb⟩) e9 e2
    match m, hp with
    | 0, hp => exact fin F φ NO (.val none [], .no) (fun _ _ h => h) h (fun _ _ _ h => h) (fun _ _ h => h.elim) (fun _ _ h => h.elim) (fun s k cs e => ⟨cs, e⟩) hp
    | 1, hp =>
      simp only [Ab.lendP] at hp
      split at hp
      case h_2 => exact hp.elim
      rename_i s _
      have hs := h.slot s
      split at hp
      · rename_i cs0 hF
        exact at_ s 0 [] none 1 (fun _ _ => True) rfl (fun k bs hk => by rw [hF] at hk; cases hk; rfl) hp
      · rename_i cs0 hF
        rw [hF] at hs
        obtain ⟨X1, Y, -, -, -, ⟨arr, hv, hsz⟩, -⟩ := hs
        refine at_ s 0 [] (some cs0.length) cs0.length (fun _ _ => True) rfl (fun k bs hk => ?_) hp
        rw [hF] at hk
        cases hk
        show tvs a s = _
        rw [hv]
        have := mkv_agg arr
        rw [hsz] at this
        exact this.trans (mkv_congr fun j _ => by simp [cellv, topU, Value.cells])
      · rename_i t off st ag hF
        rw [hF] at hs
        obtain ⟨k, cs, r, j, h1, h2, h3, h4⟩ := hs
        refine at_ t off st ag _ (fun _ _ => True) rfl (fun k' bs hk => ?_) hp
        rw [h1] at hk
        cases hk
        exact h4
      · exact hp.elim
    | n + 2, hp =>
      simp only [Ab.lendP] at hp
      split at hp
      case h_2 => exact hp.elim
      rename_i s _
      have hs := h.slot s
      split at hp
      · rename_i t hF
        rw [hF] at hs
        obtain ⟨k, cs, r, j, g, o, h1, h2, h3, h4⟩ := hs
        split at hp
        · rename_i cs2 hF2
          rw [hF2] at h1
          simp only [AV.hold.injEq] at h1
          obtain ⟨rfl, rfl⟩ := h1
          have ht := h.slot t
          rw [hF2] at ht
          obtain ⟨X1, Y, -, -, -, ⟨g', o', hv, -⟩, -⟩ := ht
          refine box t _ hF2 ?_ hp
          show tvs a s = tvs a t
          rw [hv] at h3 ⊢
          simp only [plc, topA, Option.map_some, Option.some.injEq, Prod.mk.injEq, Nat.add_zero] at h3
          rw [h4, ← h3.1, ← h3.2]
        · exact hp.elim
      · rename_i cs2 hF
        exact box s cs2 hF rfl hp
      · exact hp.elim
theorem MAOk.mono {S S' V : CellSet} {m : MA} {v : Value} (h : MAOk w S V m v) (hS : ∀ b o, S b o → S' b o) : MAOk w S' V m v := by
  cases m with
  | val ag cs => exact ValOk.mono h hS (fun _ _ h => h)
  | «mut» ag cs => exact ValOk.mono h hS (fun _ _ h => h)
  | ptr cs => obtain ⟨X1, Y, h1, h2, h3, h4, h5⟩ := h; exact ⟨X1, Y, h1, h2, h3, h4, h5.mono hS (fun _ _ h => h)⟩
theorem StX.valsP (h : StX w0 M S0 N S φ F a w) {F0 : Nat → AV} : ∀ {l : List (MA × Plc)} {xs : List Operand} {K : Bool → List MA → Prop} {V : Nat → CellSet}, Lents w S a F0 V l (xs.map a.eval) → Ab.valsP F l xs K →
    ∃ b A, K b A ∧ MAs w (SAll S φ) V A (xs.map a.eval) ∧ (b = true → MAs w S V A (xs.map a.eval))
  | [], [], K, V, _, hp => ⟨true, [], hp, trivial, fun _ => trivial⟩
  | (m, .no) :: l, x :: xs, K, V, hl, hp => by
    obtain ⟨ag, cs, Y, hK, hv, hY⟩ := h.val (h.ev x) hp
    obtain ⟨b, A, hK, h1, h2⟩ := StX.valsP h hl.2 hK
    have hY' : ∀ b o, Y b o → SAll S φ b o := fun b o hb => by
      rcases hY b o hb with hb | hb
      · cases x with
        | tmp t => exact .inr ⟨t, hb⟩
        | _ => exact hb.elim
      · exact .inr hb
    cases hn : noOwn cs with
    | true => rw [hn] at hK; exact ⟨b, _, hK, ⟨(hv.bare hn).mono (fun _ _ h => .inl h) (fun _ _ h => h), h1⟩, fun hb => ⟨hv.bare hn, h2 hb⟩⟩
    | false => rw [hn] at hK; exact ⟨false, _, hK, ⟨hv.freeze.mono (fun b o h => h.elim .inl (hY' b o)) (fun _ _ h => h), h1⟩, fun hb => by cases hb⟩
  | (m, .at_ t off st) :: l, x :: xs, K, V, hl, hp => by
    obtain ⟨b, A, hK, h1, h2⟩ := StX.valsP h hl.2 hp
    obtain ⟨ag, cs, rfl, ⟨e1, u, e2, e3⟩, -⟩ := hl.1
    have hv : ValOk w S (V 0) ag (utL cs) (a.eval x) := ⟨by rw [utL_map]; simpa using e1, u, e2, e3.ut⟩
    exact ⟨b, _, hK, ⟨hv.mono (fun _ _ h => .inl h) (fun _ _ h => h), h1⟩, fun hb => ⟨hv, h2 hb⟩⟩
  | (m, .box t) :: l, x :: xs, K, V, hl, hp => by
    obtain ⟨b, A, hK, h1, h2⟩ := StX.valsP h hl.2 hp
    obtain ⟨cs, rfl, hv, -⟩ := hl.1
    exact ⟨b, _, hK, ⟨hv.mono (fun _ _ h => .inl h), h1⟩, fun hb => ⟨hv, h2 hb⟩⟩
theorem mkv_inj {ag : Option Nat} {u u' : Nat → Value} (h : mkv ag u = mkv ag u') : ∀ d, d < ag.getD 1 → u d = u' d := by
  cases ag with
  | none => intro d hd; simp only [Option.getD_none] at hd; have : d = 0 := by omega
            subst this; exact h
  | some n =>
    intro d hd
    simp only [Option.getD_some] at hd
    simp only [mkv, Value.agg.injEq] at h
    have h2 := congrArg Array.toList h
    have h3 := congrArg (fun l => l[d]?) h2
    simpa [hd] using h3
theorem klB_hold {t : Nat} {v : AV} {k : Kd} {cs : List C} (h : klB t v = .hold k cs) : v = .hold k cs := by
  cases v with
  | hold => exact h
  | dead => cases h
  | iref => cases h
  | fn => cases h
  | bor t' off st ag => simp only [klB] at h; cases hb : Nat.beq t' t <;> rw [hb] at h <;> cases h
  | ref t' off st =>
    cases st with
    | nil => cases h
    | cons s st => simp only [klB] at h; cases hb : Nat.beq t' t <;> rw [hb] at h <;> cases h
theorem StX.rest {φ' : Nat → CellSet} {F' F0 : Nat → AV} {S' : CellSet} {Vall : CellSet} (hw : StX w0 M S0 N S φ' F' a w) (hk : Keeps Vall w w1) (hVall : Free w0 M S φ' w Vall) (hb : HoldBack F0 F') :
    ∀ {l : List (MA × Plc)} {B : List MA} {vs : List Value} {V V' : Nat → CellSet} {K : (Nat → AV) → Prop} {F : Nat → AV} {φ : Nat → CellSet}, StX w0 M S0 N S' φ F a w1 → Lents w S a F0 V l vs → MPs w1 S' V' B vs → (∀ q, q ∈ l → ∀ t, t ∈ q.2.slot → ∀ k cs, F t = .hold k cs → F' t = .hold k cs) →
      (∀ i, Free w0 M S' φ w1 (V' i)) → (∀ i i', i ≠ i' → ∀ b o, V' i b o → ¬ V' i' b o) → distP l = true → restA l B K F → ∃ F2 φ2, K F2 ∧ StX w0 M S0 N S' φ2 F2 a w1 ∧ ∀ s b o, φ2 s b o → φ s b o ∨ ∃ i, V' i b o
  | [], B, vs, V, V', K, F, φ, h, hl, hm, hkeep, hf, hd, hdist, hp => by
    cases B with
    | nil => exact ⟨F, φ, hp, h, fun _ _ _ h => .inl h⟩
    | cons _ _ => exact hp.elim
  | (m, p) :: l, B, vs, V, V', K, F, φ, h, hl, hm, hkeep, hf, hd, hdist, hp => by
    cases vs with
    | nil => exact hl.elim
    | cons v vs =>
      cases B with
      | nil => exact hm.elim
      | cons m' B =>
        simp only [distP, Bool.and_eq_true] at hdist
        have next : ∀ (F1 : Nat → AV) (φ1 : Nat → CellSet), StX w0 M S0 N S' φ1 F1 a w1 → (∀ s b o, φ1 s b o → φ s b o ∨ V' 0 b o) → (∀ q, q ∈ l → ∀ t, t ∈ q.2.slot → ∀ k cs, F1 t = .hold k cs → F' t = .hold k cs) → restA l B K F1 →
            ∃ F2 φ2, K F2 ∧ StX w0 M S0 N S' φ2 F2 a w1 ∧ ∀ s b o, φ2 s b o → φ s b o ∨ ∃ i, V' i b o := by
          intro F1 φ1 h1 hle hkeep1 hp1
          obtain ⟨F2, φ2, e1, e2, e3⟩ := StX.rest hw hk hVall hb (V' := fun i => V' (i + 1)) h1 hl.2 hm.2 hkeep1 (fun i b o hi => ⟨fun t ht => (hle t b o ht).elim ((hf (i + 1) b o hi).1 t) (fun h0 => hd 0 (i + 1) (by omega) b o h0 hi), (hf (i + 1) b o hi).2⟩) (fun i i' hne => hd (i + 1) (i' + 1) (by omega)) hdist.2 hp1
          exact ⟨F2, φ2, e1, e2, fun s b o hs => (e3 s b o hs).elim (fun h => (hle s b o h).imp id (fun h => ⟨0, h⟩)) (fun ⟨i, h⟩ => .inr ⟨i + 1, h⟩)⟩
        have hne : ∀ t, t ∈ p.slot → ∀ q, q ∈ l → ∀ t', t' ∈ q.2.slot → t' ≠ t := fun t ht q hq t' ht' e => by
          have h1 := List.all_eq_true.1 (List.all_eq_true.1 hdist.1 t ht) q hq
          have h2 : q.2.slot.any (Nat.beq t) = true := List.any_eq_true.2 ⟨t', ht', by rw [e]; exact Nat.beq_refl t⟩
          rw [h2] at h1; cases h1
        cases p with
        | no => exact next F φ h (fun _ _ _ h => .inl h) (fun q hq => hkeep q (List.mem_cons_of_mem _ hq)) (by cases m' <;> exact hp)
        | at_ t off st =>
          obtain ⟨ag, cs, rfl, hv, k0, cs0, hF0, hvv⟩ := hl.1
          cases m' with
          | val => exact hp.elim
          | ptr => exact hp.elim
          | «mut» ag' out =>
            simp only [restA] at hp
            obtain ⟨u', hu', hr'⟩ := ValOk.cells (show ValOk w1 S' (V' 0) ag' out v from hm.1)
            have hone : ag = none → (cellv w (topU w k0 (tvs a t)) off st 0).oneCell' = true := fun e => by
              subst e
              obtain ⟨hl1, u1, hv1, hr1⟩ := hv
              have : cellv w (topU w k0 (tvs a t)) off st 0 = u1 0 := hvv.symm.trans hv1
              rw [this]
              exact hr1.one (by simp at hl1; omega)
            have hcv := mkv_cells hone
            rw [← hvv, hu'] at hcv
            have hlen : out.length = ag.getD 1 := by have := congrArg List.length hcv; simpa using this
            have heq : ∀ d, d < out.length → u' d = cellv w (topU w k0 (tvs a t)) off st d := fun d hd => by
              have := congrArg (fun l => l[d]?) hcv
              simpa [hd, ← hlen] using this
            cases hF : F t with
            | hold k bs =>
              rw [hF] at hp
              have hF' := hkeep (.mut ag cs, .at_ t off st) (List.mem_cons_self ..) t (by simp [Plc.slot]) k bs hF
              have hkk : k0 = k := by
                obtain ⟨c1, e1⟩ := hb t k bs hF'
                rw [hF0] at e1
                simp only [AV.hold.injEq] at e1
                exact e1.1
              subst hkk
              have fin : ∀ out', out'.length = out.length → Row w1 S' (V' 0) out' u' → ∀ r j, rowAt bs off st = some (r, j) → ownAt bs off st → j + out.length ≤ r.length → restA l B K (updH F t k0 (updAt bs off st (splice r j out'))) → ∃ F2 φ2, K F2 ∧ StX w0 M S0 N S' φ2 F2 a w1 ∧ ∀ s b o, φ2 s b o → φ s b o ∨ ∃ i, V' i b o := by
                intro out' hol hr' r j h1 h2 h3 hp
                have hsame := hw.cellv_same hF' h1 hk hVall
                obtain ⟨φ1, e1, e2⟩ := h.back hF h1 h2 (by rw [hol]; exact h3) (hf 0) (hr'.congr fun d hd => (hsame d (by omega)).trans (heq d (by omega)).symm)
                refine next _ φ1 e1 e2 (fun q hq t' ht' k cs hc => ?_) hp
                have := hne t (by simp [Plc.slot]) q hq t' ht'
                rw [updH_other _ _ _ this] at hc
                exact hkeep q (List.mem_cons_of_mem _ hq) t' ht' k cs (klB_hold hc)
              cases st with
              | nil =>
                simp only at hp
                cases hble : Nat.ble (off + out.length) bs.length with
                | false => rw [hble] at hp; exact hp.elim
                | true =>
                  rw [hble] at hp
                  simp only [cond_true, fc_eq] at hp
                  obtain ⟨-, u0, hv0, hr0⟩ := hv
                  have hu0 : ∀ d, d < out.length → u' d = u0 d := fun d hd => by
                    have e1 := mkv_inj (hv0.symm.trans hvv) d (by omega)
                    rw [e1]; exact heq d hd
                  exact fin _ (rtL_len _ _) (hr0.rt hr' hu0) bs off rfl trivial (Nat.le_of_ble_eq_true hble) hp
              | cons s st =>
                simp only at hp
                obtain ⟨r, j, h1, h2, h3, hK⟩ := hp.out
                exact fin out rfl hr' r j h1 h2 h3 hK
            | _ => rw [hF] at hp; exact hp.elim
        | box t =>
          obtain ⟨cs, rfl, hv, hvv⟩ := hl.1
          cases m' with
          | val => exact hp.elim
          | «mut» => exact hp.elim
          | ptr out =>
            simp only [restA] at hp
            cases hF : F t with
            | dead =>
              rw [hF] at hp
              obtain ⟨X1, Y, h1, h2, h3, h4, h5⟩ := hm.1
              refine next _ _ (h.revive hF (hf 0) ⟨X1, Y, h1, h2, h3, by rw [← hvv]; exact h4, by rw [← hvv]; exact h5⟩) (fun s b o hs => ?_) (fun q hq t' ht' k cs hc => ?_) hp
              · replace hs : (if s = t then V' 0 else φ s) b o := hs
                split at hs
                · exact .inr hs
                · exact .inl hs
              · have := hne t (by simp [Plc.slot]) q hq t' ht'
                rw [setH_other _ _ this] at hc
                exact hkeep q (List.mem_cons_of_mem _ hq) t' ht' k cs hc
            | _ => rw [hF] at hp; exact hp.elim
theorem MPOk.fresh {S V : CellSet} {m : MA} {v : Value} (h : MPOk w S V m v) (hf : match m with | .val _ _ => True | .mut _ cs => frL cs | .ptr cs => frL cs) : MPOk w NO V m v := by
  cases m with
  | val => trivial
  | «mut» ag cs => obtain ⟨h1, u, h2, h3⟩ := h; exact ⟨h1, u, h2, h3.fresh hf⟩
  | ptr cs => obtain ⟨X1, Y, h1, h2, h3, h4, h5⟩ := h; exact ⟨X1, Y, h1, h2, h3, h4, h5.fresh hf⟩
theorem MPOk.mono {S S' V : CellSet} {m : MA} {v : Value} (h : MPOk w S V m v) (hS : ∀ b o, S b o → S' b o) : MPOk w S' V m v := by
  cases m with
  | val => trivial
  | «mut» ag cs => exact MAOk.mono (m := .mut ag cs) h hS
  | ptr cs => exact MAOk.mono (m := .ptr cs) h hS
theorem MPs.mono {S S' : CellSet} (hS : ∀ b o, S b o → S' b o) : ∀ {V : Nat → CellSet} {B : List MA} {vs : List Value}, MPs w S V B vs → MPs w S' V B vs
  | _, [], [], _ => trivial
  | _, _ :: _, _ :: _, h => ⟨h.1.mono hS, MPs.mono hS h.2⟩
  | _, [], _ :: _, h => h.elim
  | _, _ :: _, [], h => h.elim
theorem MPs.fresh {S : CellSet} : ∀ {V : Nat → CellSet} {B : List MA} {vs : List Value}, MPs w S V B vs → frMs B → MPs w NO V B vs
  | _, [], [], _, _ => trivial
  | _, .val _ _ :: _, _ :: _, h, hf => ⟨trivial, MPs.fresh h.2 hf⟩
  | _, .mut _ _ :: _, _ :: _, h, hf => ⟨h.1.fresh hf.1, MPs.fresh h.2 hf.2⟩
  | _, .ptr _ :: _, _ :: _, h, hf => ⟨h.1.fresh hf.1, MPs.fresh h.2 hf.2⟩
  | _, [], _ :: _, h, _ => h.elim
  | _, _ :: _, [], h, _ => h.elim
theorem zip_fst {xs : List Operand} {ms : List Nat} (h : xs.length = ms.length) : (xs.zip ms).map (fun x => a.eval x.1) = xs.map a.eval := by
  rw [show (fun x : Operand × Nat => a.eval x.1) = a.eval ∘ Prod.fst from rfl, ← List.map_map, List.map_fst_zip (by omega)]
/-- A call to which something is lent. -/
theorem StX.callM (h : StX w0 M S0 N S φ F a w) {o : Oper} {f : Nat} {args : Array Operand} {ts : Array TypeId} (ho : o.op = .call ⟨.value (.func f), args, ts⟩) {modes : List Nat} {K : (Nat → AV) → Prop} (hp : aCallM P N F o.dst f args.toList modes K)
    {Kc : Act → World → Prop} {Q : Exit → Act → World → Prop} (hkc : ∀ F' a' w', K F' → St w0 M S0 N F' a' w' → Kc a' w') : o.wp P a w Kc Q := by
  obtain ⟨F', l, φ', V, hK, h', hle, hV, hVt, hVd, hb, hL⟩ := h.lendP hp
  cases hdl : (distP l && Nat.beq args.toList.length modes.length) with
  | false => rw [hdl] at hK; exact hK.elim
  | true =>
    rw [hdl] at hK
    simp only [Bool.and_eq_true] at hdl
    rw [zip_fst (Nat.eq_of_beq_eq_true hdl.2)] at hL
    obtain ⟨b, A, hK, hA1, hA2⟩ := h'.valsP hL hK
    obtain ⟨sh, B, k, rcs, hc, hsb, hK⟩ := hK.out
    have hVall : Free w0 M S φ' w (fun b o => ∃ i, V i b o) := fun b o ⟨i, hi⟩ => hV i b o hi
    have hargs : (args.toList.map a.eval).toArray = args.map a.eval := by apply Array.ext'; rw [Array.toList_map]
    have hrun := call_run (a := a) (w := w) ho hc.1
    have fin : ∀ S2 : CellSet, (∀ b o, S2 b o → b < w.heap.size) → (∀ i b o, V i b o → ¬ S2 b o) → MAs w S2 V A (args.toList.map a.eval) → ((∀ b o, S2 b o → S b o) ∨ (sh = false ∧ frMs B)) → o.wp P a w Kc Q := by
      intro S2 hS2 hVS hA hcase
      have hy : Yld P o a w fun v w1 => ∃ F2, K F2 ∧ St w0 M S0 N F2 (a.put o.dst v) w1 := by
        refine Yld.enter hrun ?_
        rw [← hargs]
        refine (hc.2 w S2 V _ hS2 (fun i b o hi => ⟨(hV i b o hi).2.2.1, hVS i b o hi⟩) hVd hA).mono fun e w1 ⟨v, he, hk, X, V', S1, hX, hV', hS1, hVd', hXV, hXS, hVS1, hh, hr, hm⟩ => ⟨v, he, ?_⟩
        have h1 := h'.world hk hVall
        have reg : ∀ Z : CellSet, (∀ b o, Z b o → (∃ i, V i b o) ∨ (b < w1.heap.size ∧ w.heap.size ≤ b)) → Free w0 M S φ' w1 Z := fun Z hZ b o hz => by
          rcases hZ b o hz with hz | hz
          · obtain ⟨a1, a2, a3, a4⟩ := hVall b o hz
            exact ⟨a1, a2, Nat.lt_of_lt_of_le a3 hk.size, a4⟩
          · exact ⟨fun t ht => by have := (h'.ex t b o ht).1; omega, fun hS => by have := (h'.sup b o hS).1; omega, hz.1, .inl (Nat.le_trans h'.old.size hz.2)⟩
        have h2 : StX w0 M S0 N (fun b o => S b o ∨ S1 b o) φ' F' a w1 := by
          refine h1.addS (V := fun b o => S1 b o ∧ ((∃ i, V i b o) ∨ (b < w1.heap.size ∧ w.heap.size ≤ b))) (reg _ fun b o hz => hz.2) (fun _ _ h => .inl h) (fun b o hz => ?_)
          rcases hz with hz | hz
          · exact .inl hz
          · rcases hS1 b o hz with ⟨q1, q2⟩ | q
            · rcases hcase with q3 | ⟨q3, -⟩
              · exact .inl (q3 b o q2)
              · rw [q3] at q1; cases q1
            · exact .inr ⟨hz, q⟩
        have frees : ∀ Z : CellSet, (∀ b o, Z b o → (∃ i, V i b o) ∨ (b < w1.heap.size ∧ w.heap.size ≤ b)) → (∀ b o, Z b o → ¬ S1 b o) → Free w0 M (fun b o => S b o ∨ S1 b o) φ' w1 Z := fun Z hZ hn b o hz => by
          obtain ⟨a1, a2, a3⟩ := reg Z hZ b o hz
          exact ⟨a1, fun h => h.elim a2 (hn b o hz), a3⟩
        have hm2 : MPs w1 (fun b o => S b o ∨ S1 b o) V' B (args.toList.map a.eval) := by
          rcases hcase with q | ⟨-, q⟩
          · exact hm.mono fun b o hz => hz.imp (q b o) id
          · exact (hm.fresh q).mono fun _ _ h => h.elim
        obtain ⟨F2, φ2, e1, e2, e3⟩ := StX.rest h' hk hVall hb h2 hL hm2 (fun q _ t _ k cs e => e) (fun i => frees (V' i) (hV' i) (hVS1 i)) hVd' hdl.1 hK
        cases hd : o.dst with
        | none =>
          rw [hd] at e1
          exact ⟨F2, e1, _, φ2, e2⟩
        | some d =>
          rw [hd] at e1
          have hXf : Free w0 M (fun b o => S b o ∨ S1 b o) φ2 w1 X := fun b o hz => by
            obtain ⟨a1, a2, a3⟩ := frees X hX hXS b o hz
            exact ⟨fun t ht => (e3 t b o ht).elim (a1 t) (fun ⟨i, hi⟩ => hXV i b o hz hi), a2, a3⟩
          exact e2.putD_free (X := X) ⟨NO, X, fun _ _ h => h.elim, fun _ _ h => h, fun _ _ h => h.elim, hh, hr.mono (fun _ _ h => .inr h) (fun _ _ h => h)⟩ hXf e1
      exact hy Kc Q fun v w1 ⟨F2, q1, q2⟩ => hkc F2 _ w1 q1 q2
    rcases hsb with hbt | hfr
    · exact fin S (fun b o hb => (h'.sup b o hb).1) (fun i b o hi => (hV i b o hi).2.1) (hA2 hbt) (.inl fun _ _ h => h)
    · exact fin (SAll S φ') (fun b o hb => hb.elim (fun hs => (h'.sup b o hs).1) (fun ⟨t, ht⟩ => (h'.ex t b o ht).1)) (fun i b o hi hs => hs.elim (hV i b o hi).2.1 (fun ⟨t, ht⟩ => (hV i b o hi).1 t ht)) hA1 (.inr hfr)
end
end Go.Proofs.YthinjmmlpgjhnaaGreat.Ab
