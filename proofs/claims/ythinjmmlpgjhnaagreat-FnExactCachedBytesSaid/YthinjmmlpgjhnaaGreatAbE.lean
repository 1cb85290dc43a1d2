/- A function's contract out of the abstract run of its body. No condition. -/
import Derived.Test.YthinjmmlpgjhnaaGreatAbJ
import Derived.Test.YthinjmmlpgjhnaaGreatAbY
namespace Go.Proofs.YthinjmmlpgjhnaaGreat.Ab
open Go.RowKit

def kdOfSh : List (Option Nat) → Kd
  | [ag] => kdOf ag
  | sh => .tup sh
def rvSlot : ResultVar → Nat
  | .tmp t => t
  | .cell t _ => t
def rvRun (tmps : Array Value) : ResultVar → Sem Value
  | .tmp t => pure (tmps.getD t undef)
  | .cell a t => do loadVar t (← asAddr (tmps.getD a undef))
def resOne (TE : Nat → Option TI) (F : Nat → AV) (r : ResultVar) (K : Option Nat → List C → Prop) : Prop :=
  match r with
  | .tmp t => (match F t with
    | .hold .one cs => K none cs
    | .hold .agg cs => K (some cs.length) cs
    | _ => False)
  | .cell t T => match TE T with
    | some i => bif i.agg || Nat.beq i.size 1 then (match F t with
      | .hold .box cs => bif Nat.beq cs.length i.size then K (agOf i) cs else False
      | _ => False) else False
    | none => False
def resA (TE : Nat → Option TI) (F : Nat → AV) : List ResultVar → List Nat → (List (Option Nat) → List C → Prop) → Prop
  | [], _, K => K [] []
  | r :: rs, seen, K => bif seen.any (Nat.beq (rvSlot r)) then False else resOne TE F r fun ag cs => resA TE F rs (rvSlot r :: seen) fun sh cs' => K (ag :: sh) (cs ++ cs')
def argL : Nat → List RA → List (Nat × AV)
  | _, [] => []
  | i, .val ag cs :: A => (i, .hold (kdOf ag) cs) :: argL (i + 1) A
/-- What is returned. -/
inductive Fin_ (k k' : Kd) (cs cs' : List C) : Prop
  | mk_ (h : k = k' ∧ cs = cs')
theorem Fin_.mk {k k' : Kd} {cs cs' : List C} (h1 : k = k') (h2 : cs = cs') : Fin_ k k' cs cs' := by refine .mk_ ?_; exact ⟨h1, h2⟩
theorem Fin_.out {k k' : Kd} {cs cs' : List C} (h : Fin_ k k' cs cs') : k = k' ∧ cs = cs' := by obtain ⟨h⟩ := h; exact h
def endA (TE : Nat → Option TI) (rs : List ResultVar) (k : Kd) (rcs : List C) : Exit → (Nat → AV) → Prop := fun e F =>
  match e with
  | .normal => resA TE F rs [] fun sh cs => Fin_ (kdOfSh sh) k cs rcs
  | .ret => resA TE F rs [] fun sh cs => Fin_ (kdOfSh sh) k cs rcs
  | _ => False

section
variable {P : Program} {w0 w w1 : World} {M S0 S : CellSet} {N : Lim} {φ : Nat → CellSet} {F : Nat → AV} {a : Act} {TE : Nat → Option TI}

theorem StX.resOne (h : StX w0 M S0 N S φ F a w) (hTE : ∀ t i, TE t = some i → TOk P t i) {r : ResultVar} {K : Option Nat → List C → Prop} (hp : resOne TE F r K) :
    ∃ ag cs v, K ag cs ∧ ValOk w S (φ (rvSlot r)) ag cs v ∧ (rvRun a.tmps r).run P w = .ok v w := by
  cases r with
  | tmp t =>
    have hs := h.slot t
    simp only [Ab.resOne] at hp
    cases hF : F t with
    | hold k cs =>
      rw [hF] at hp hs
      obtain ⟨X1, Y, h1, h2, h3, h4, h5⟩ := hs
      cases k with
      | one => exact ⟨none, cs, tvs a t, hp, ⟨h4, _, rfl, h5.mono (fun _ _ h => h) h2⟩, rfl⟩
      | agg =>
        obtain ⟨arr, hv, hsz⟩ := h4
        refine ⟨some cs.length, cs, tvs a t, hp, ⟨rfl, topU w .agg (tvs a t), ?_, h5.mono (fun _ _ h => h) h2⟩, rfl⟩
        rw [hv]
        have := mkv_agg arr
        rw [hsz] at this
        exact this
      | _ => exact hp.elim
    | _ => rw [hF] at hp; exact hp.elim
  | cell t T =>
    have hs := h.slot t
    simp only [Ab.resOne] at hp
    split at hp
    case h_2 => exact hp.elim
    rename_i i hT
    have ht := hTE _ _ hT
    cases ha : (i.agg || Nat.beq i.size 1) with
    | false => rw [ha] at hp; exact hp.elim
    | true =>
      rw [ha] at hp
      simp only [cond_true] at hp
      cases hF : F t with
      | hold k cs =>
        rw [hF] at hp hs
        cases k with
        | box =>
          simp only at hp
          cases hl : Nat.beq cs.length i.size with
          | false => rw [hl] at hp; exact hp.elim
          | true =>
            rw [hl] at hp
            have hl' := Nat.eq_of_beq_eq_true hl
            obtain ⟨X1, Y, h1, h2, h3, ⟨g, o, hv, hb⟩, h5⟩ := hs
            have hcell : ∀ d, d < i.size → cel w g (o + d) = some (topU w .box (tvs a t) d) := fun d hd => by
              obtain ⟨-, ⟨z, hz⟩, -⟩ := hb d (by omega)
              rw [hv]; simp only [topU, hz, Option.getD_some]
            have hrun := load_run (w := w) ht ha hcell
            refine ⟨_, cs, _, hp, ⟨by rw [agOf_len ha]; exact hl', _, rfl, h5.mono (fun _ _ h => h) h2⟩, ?_⟩
            have hv' : a.tmps.getD t undef = .pointer (some ⟨g, o, none⟩) := hv
            simp only [rvRun, hv', asAddr]
            exact hrun
        | _ => exact hp.elim
      | _ => rw [hF] at hp; exact hp.elim
theorem flat_cells {ag : Option Nat} {cs : List C} {v : Value} {Y : CellSet} (h : ValOk w S Y ag cs v) : ∃ u, v.cells.toList = (List.range cs.length).map u ∧ Row w S Y cs u ∧ v = mkv ag u := by
  obtain ⟨hl, u, rfl, hr⟩ := h
  refine ⟨u, ?_, hr, rfl⟩
  rw [mkv_cells (fun e => by subst e; exact hr.one (by simp at hl; omega)), hl]
theorem row_append {Y1 Y2 : CellSet} {cs cs' : List C} {u u' : Nat → Value} (h : Row w S Y1 cs u) (h' : Row w S Y2 cs' u') (hd : ∀ b o, Y1 b o → ¬ Y2 b o) :
    Row w S (fun b o => Y1 b o ∨ Y2 b o) (cs ++ cs') (fun j => if j < cs.length then u j else u' (j - cs.length)) := by
  obtain ⟨f, h1, h2, h3⟩ := h
  obtain ⟨f', h1', h2', h3'⟩ := h'
  refine ⟨fun j => if j < cs.length then f j else f' (j - cs.length), fun j c hj => ?_, fun j hj b o hb => ?_, fun j j' hj hj' hne b o hb hb' => ?_⟩
  · by_cases hl : j < cs.length
    · simp only [if_pos hl]; rw [List.getElem?_append_left hl] at hj; exact h1 j c hj
    · simp only [if_neg hl]; rw [List.getElem?_append_right (by omega)] at hj; exact h1' _ c hj
  · rw [List.length_append] at hj
    by_cases hl : j < cs.length
    · rw [if_pos hl] at hb; exact .inl (h2 j hl b o hb)
    · rw [if_neg hl] at hb; exact .inr (h2' _ (by omega) b o hb)
  · rw [List.length_append] at hj hj'
    by_cases hl : j < cs.length
    · rw [if_pos hl] at hb
      by_cases hl' : j' < cs.length
      · rw [if_pos hl'] at hb'; exact h3 j j' hl hl' hne b o hb hb'
      · rw [if_neg hl'] at hb'; exact hd b o (h2 j hl b o hb) (h2' _ (by omega) b o hb')
    · rw [if_neg hl] at hb
      by_cases hl' : j' < cs.length
      · rw [if_pos hl'] at hb'; exact hd b o (h2 j' hl' b o hb') (h2' _ (by omega) b o hb)
      · rw [if_neg hl'] at hb'; exact h3' _ _ (by omega) (by omega) (by omega) b o hb hb'
theorem StX.resA (h : StX w0 M S0 N S φ F a w) (hTE : ∀ t i, TE t = some i → TOk P t i) : ∀ {rs : List ResultVar} {seen : List Nat} {K : List (Option Nat) → List C → Prop}, resA TE F rs seen K →
    ∃ sh cs vs u, K sh cs ∧ (rs.mapM (rvRun a.tmps)).run P w = .ok vs w ∧ TupOk sh vs ∧ sh.length = rs.length ∧ shLen sh = cs.length ∧
      (vs.flatMap fun v => v.cells.toList) = (List.range cs.length).map u ∧ (∀ ag, sh = [ag] → ∃ v, vs = [v] ∧ ValOk w S (fun b o => ∃ t, t ∉ seen ∧ φ t b o) ag cs v) ∧ Row w S (fun b o => ∃ t, t ∉ seen ∧ φ t b o) cs u
  | [], seen, K, hp => ⟨[], [], [], fun _ => undef, hp, rfl, trivial, rfl, rfl, rfl, fun _ h => by simp at h, Row.nil _ _ _ _⟩
  | r :: rs, seen, K, hp => by
    simp only [Ab.resA] at hp
    cases hseen : seen.any (Nat.beq (rvSlot r)) with
    | true => rw [hseen] at hp; exact hp.elim
    | false =>
      rw [hseen] at hp
      simp only [cond_false] at hp
      have hns : rvSlot r ∉ seen := fun hm => by
        have : seen.any (Nat.beq (rvSlot r)) = true := List.any_eq_true.2 ⟨_, hm, Nat.beq_refl _⟩
        rw [this] at hseen; cases hseen
      obtain ⟨ag, cs, v, hp, hv, hrun⟩ := h.resOne hTE hp
      obtain ⟨sh, cs', vs, u', hK, hrun', hT, hln, hL, hcells, -, hrow⟩ := StX.resA h hTE hp
      obtain ⟨u, hcv, hr, hmk⟩ := flat_cells hv
      have hd : ∀ b o, φ (rvSlot r) b o → ¬ ∃ t, t ∉ rvSlot r :: seen ∧ φ t b o := fun b o hb ⟨t, ht, hb'⟩ => h.dis _ _ (fun e => ht (by rw [← e]; simp)) b o hb hb'
      refine ⟨ag :: sh, cs ++ cs', v :: vs, fun j => if j < cs.length then u j else u' (j - cs.length), hK, ?_, ?_, by simp [hln], ?_, ?_, ?_, ?_⟩
      · rw [List.mapM_cons]
        simp only [Sem.run_bind, hrun, Result.andThen_ok, hrun', Sem.run_pure]
      · obtain ⟨hl, -⟩ := hv
        cases ag with
        | none =>
          refine ⟨?_, hT⟩
          rw [hmk]
          have h1 : (u 0).oneCell' = true := hr.one (by simp at hl; omega)
          show (u 0).cells = #[u 0]
          cases hu : u 0 <;> first | (rw [hu] at h1; cases h1; done) | rfl
        | some n => exact ⟨⟨_, by rw [hmk]; rfl, by simp⟩, hT⟩
      · rw [shLen_cons, List.length_append, hL, hv.1]
      · simp only [List.flatMap_cons, hcv, hcells, List.length_append]
        apply List.ext_getElem?
        intro j
        by_cases hj : j < cs.length
        · rw [List.getElem?_append_left (by simpa using hj)]; simp [hj, Nat.lt_add_right]
        · rw [List.getElem?_append_right (by simp; omega)]
          by_cases hj2 : j - cs.length < cs'.length
          · simp [hj, hj2, show j < cs.length + cs'.length by omega]
          · simp [hj2, show ¬ j < cs.length + cs'.length by omega]
      · intro ag' hag
        simp only [List.cons.injEq] at hag
        obtain ⟨rfl, rfl⟩ := hag
        cases vs with
        | cons _ _ => exact hT.elim
        | nil =>
          have : cs' = [] := List.eq_nil_of_length_eq_zero (by simpa [shLen] using hL.symm)
          subst this
          exact ⟨v, rfl, by rw [List.append_nil]; exact hv.mono (fun _ _ h => h) (fun b o hb => ⟨_, hns, hb⟩)⟩
      · exact (row_append hr hrow hd).mono (fun _ _ h => h) (fun b o hb => hb.elim (fun hb => ⟨_, hns, hb⟩) (fun ⟨t, ht, hb⟩ => ⟨t, fun hm => ht (List.mem_cons_of_mem _ hm), hb⟩))
theorem argL_slot : ∀ {A : List RA} {vs : List Value} (i : Nat), RAs w S A vs → ∀ t, (lay (argL i A) t = .dead) ∨ (∃ ag cs v, i ≤ t ∧ vs[t - i]? = some v ∧ lay (argL i A) t = .hold (kdOf ag) cs ∧ ValOk w S NO ag cs v)
  | [], _, i, _, t => .inl rfl
  | .val ag cs :: A, [], i, h, t => h.elim
  | .val ag cs :: A, v :: vs, i, h, t => by
    simp only [argL, lay]
    cases hb : Nat.beq t i with
    | true =>
      have := Nat.eq_of_beq_eq_true hb
      subst this
      exact .inr ⟨ag, cs, v, Nat.le_refl _, by simp, rfl, h.1⟩
    | false =>
      have hne : t ≠ i := fun e => by subst e; rw [Nat.beq_refl] at hb; cases hb
      rcases argL_slot (i + 1) h.2 t with h1 | ⟨ag', cs', v', h1, h2, h3⟩
      · exact .inl h1
      · refine .inr ⟨ag', cs', v', by omega, ?_, h3⟩
        rw [show t - i = (t - (i + 1)) + 1 by omega]
        simpa using h2
theorem RAs_len : ∀ {A : List RA} {vs : List Value}, RAs w S A vs → A.length = vs.length
  | [], [], _ => rfl
  | _ :: _, _ :: _, h => by simp [RAs_len h.2]
  | [], _ :: _, h => h.elim
  | _ :: _, [], h => h.elim
/-- The contract of a function that only reads what it is handed. -/
theorem callsA_of {D : Nat → Array Oper → ((Nat → AV) → Prop) → (Nat → AV) → Prop} {f : Nat} {fn : Func} {c : Code} {sh : Bool} {A : List RA} {k : Kd} {rcs : List C} (hTE : ∀ t i, TE t = some i → TOk P t i) (hf : P.funcs[f]? = some fn) (hn : (fn.name == "runtime.NumGoroutine") = false)
    (hb : fn.body = some c) {ck : Nat → Array Oper → Bool} (hD : DrawOk P N ck D) (hc : codeOk ck c = true) (hN : A.length + (fn.ntmps - A.length) = N.n) (hkp : N.kp = []) (hsh : sh = true ∨ frL rcs) (hp : aw P TE N D c (endA TE fn.results.toList k rcs) (lay (argL 0 A))) : CallsA P f sh A k rcs := by
  refine ⟨⟨fn, hf, hn, by rw [hb]; rfl⟩, fun w S vs hS hA => ?_⟩
  have hlen := RAs_len hA
  refine calls_of_wp hf hb ?_
  have hst : St w NO S N (lay (argL 0 A)) { tmps := vs.toArray ++ Array.replicate (fn.ntmps - vs.toArray.size) undef, defers := [] } w := by
    refine ⟨S, fun _ => NO, fun t => ?_, fun _ _ _ _ _ h => h.elim, fun _ _ _ h => h.elim, fun _ _ _ h => h.elim, fun _ _ h => h, fun b o h => ⟨hS b o h, .inl h⟩, Keeps.refl _ _, by simp; omega, rfl, fun p hp => by rw [hkp] at hp; cases hp⟩
    rcases argL_slot 0 hA t with h1 | ⟨ag, cs, v, -, h2, h3, h4⟩
    · rw [h1]; trivial
    · rw [h3]
      have hv : tvs { tmps := vs.toArray ++ Array.replicate (fn.ntmps - vs.toArray.size) undef, defers := [] } t = v := by
        have hlt := (List.getElem?_eq_some_iff.1 h2).1
        simp only [tvs, Array.getD_eq_getD_getElem?]
        rw [Array.getElem?_append_left (by simpa using hlt)]
        simp only [List.getElem?_toArray]
        rw [show vs[t]? = some v by simpa using h2]; rfl
      rw [hv]
      exact h4.slot
  refine aw_sound hTE hD c hc _ _ _ _ w hp hst fun e F' a' w' he hs' => ?_
  obtain ⟨S', φ', h⟩ := hs'
  have fin : resA TE F' fn.results.toList [] (fun sh cs => Fin_ (kdOfSh sh) k cs rcs) → a'.defers = [] ∧ ∃ v, (results fn a'.tmps).run P w' = .ok v w' ∧ (∃ v', Ending.returned v = .returned v' ∧ Keeps NO w w' ∧ ∃ X S1 : CellSet, (∀ b o, X b o → b < w'.heap.size ∧ w.heap.size ≤ b) ∧
      (∀ b o, S1 b o → (sh = true ∧ S b o) ∨ (b < w'.heap.size ∧ w.heap.size ≤ b)) ∧ (∀ b o, X b o → ¬ S1 b o) ∧ HoldOk w' NO k rcs.length v' ∧ Row w' S1 X rcs (topU w' k v')) := by
    intro hr
    obtain ⟨shs, cs, vs', u, hfin, hrun, hT, hln, hL, hcells, hone, hrow⟩ := h.resA hTE hr
    obtain ⟨rfl, rfl⟩ := hfin.out
    refine ⟨h.defers, ?_⟩
    have hrun2 : (results fn a'.tmps).run P w' = .ok (if h : vs'.toArray.size = 1 then vs'.toArray[0] else .tuple vs'.toArray) w' := by
      have e : results fn a'.tmps = (do let vs ← fn.results.mapM (rvRun a'.tmps); pure (if h : vs.size = 1 then vs[0] else .tuple vs)) := by
        unfold results
        congr 1
      rw [e, ← Array.toArray_toList (xs := fn.results), List.mapM_toArray]
      simp only [Sem.run_bind, Sem.run_map, hrun, Result.andThen_ok, Sem.run_pure]
    refine ⟨_, hrun2, _, rfl, h.old, fun b o => ∃ t, φ' t b o, fun b o => (sh = true ∧ S' b o) ∨ (S' b o ∧ w.heap.size ≤ b), fun b o ⟨t, hb⟩ => ⟨(h.ex t b o hb).1, (h.ex t b o hb).2.resolve_right (fun h => h)⟩, fun b o hb => ?_, fun b o ⟨t, hb⟩ hb' => h.disS t b o hb (hb'.elim (·.2) (·.1)), ?_⟩
    · rcases hb with ⟨h1, h2⟩ | ⟨h1, h2⟩
      · rcases (h.sup b o h2).2 with h3 | h3 | h3
        · exact .inl ⟨h1, h3⟩
        · exact .inr ⟨(h.sup b o h2).1, h3⟩
        · exact h3.elim
      · exact .inr ⟨(h.sup b o h1).1, h2⟩
    · have hk : HoldOk w' NO (kdOfSh shs) cs.length (if h : vs'.toArray.size = 1 then vs'.toArray[0] else .tuple vs'.toArray) ∧ Row w' S' (fun b o => ∃ t, φ' t b o) cs (topU w' (kdOfSh shs) (if h : vs'.toArray.size = 1 then vs'.toArray[0] else .tuple vs'.toArray)) := by
        have hall : ∀ b o, (∃ t, t ∉ ([] : List Nat) ∧ φ' t b o) → ∃ t, φ' t b o := fun b o ⟨t, _, hb⟩ => ⟨t, hb⟩
        match shs, hT, hone, hL with
        | [], hT, _, hL =>
          cases vs' with
          | cons _ _ => exact hT.elim
          | nil =>
            have : cs = [] := List.eq_nil_of_length_eq_zero (by simpa [shLen] using hL.symm)
            subst this
            exact ⟨⟨_, rfl, trivial, rfl⟩, Row.nil _ _ _ _⟩
        | [ag], _, hone, _ =>
          obtain ⟨v, rfl, hv⟩ := hone ag rfl
          have := (hv.mono (fun _ _ h => h) hall).slot (F := F') (tv := tvs a')
          obtain ⟨X1, Y, h1, h2, h3, h4, h5⟩ := this
          refine ⟨?_, h5.mono (fun _ _ h => h) h2⟩
          cases ag <;> exact h4
        | ag :: ag2 :: sh, hT, _, hL =>
          have hsz : ¬ vs'.toArray.size = 1 := by
            match vs', hT with
            | [], hT => simp
            | [v], hT => cases ag <;> cases ag2 <;> exact hT.2.elim
            | _ :: _ :: _, _ => simp
          rw [dif_neg hsz]
          refine ⟨⟨_, rfl, hT, hL⟩, (hrow.mono (fun _ _ h => h) hall).congr fun j hj => ?_⟩
          simp only [topU, kdOfSh, tupCells, hcells]
          simp [List.getD, hj]
      refine ⟨hk.1, ?_⟩
      rcases hsh with h1 | h1
      · exact hk.2.mono (fun b o hb => .inl ⟨h1, hb⟩) (fun _ _ h => h)
      · exact (hk.2.fresh h1).mono (fun _ _ h => h.elim) (fun _ _ h => h)
  cases e with
  | normal => exact fin he
  | ret => exact fin he
  | _ => exact he.elim
end
end Go.Proofs.YthinjmmlpgjhnaaGreat.Ab
