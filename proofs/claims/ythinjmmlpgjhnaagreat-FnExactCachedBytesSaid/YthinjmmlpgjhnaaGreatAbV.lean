/- Abstract runs: one operation, a region in the text's order, code, a whole function. No condition. -/
import Derived.Test.YthinjmmlpgjhnaaGreatAbU
namespace Go.Proofs.YthinjmmlpgjhnaaGreat.Ab
open Go.RowKit

/-- Cells moved out of where they lie: the frame behind it, and the cells. -/
def aTake (F : Nat → AV) (y : Operand) (K : (Nat → AV) → Option Nat → List C → Prop) : Prop :=
  match y with
  | .tmp t => match F t with
    | .hold .one cs => K (updH F t .one (splice cs 0 (List.replicate cs.length .x))) none cs
    | .hold .agg cs => K (updH F t .agg (splice cs 0 (List.replicate cs.length .x))) (some cs.length) cs
    | .bor t2 off [] ag => (match F t2 with
      | .hold k cs => bif Nat.ble (off + ag.getD 1) cs.length then K (updH F t2 k (splice cs off (List.replicate (ag.getD 1) .x))) ag (takeA cs off (ag.getD 1)) else False
      | _ => False)
    | _ => False
  | _ => False
def putD (N : Lim) (F : Nat → AV) (d : Nat) (av : AV) (K : (Nat → AV) → Prop) : Prop := bif N.free d && !av.uses d then K (put F d av) else False
def aAssign (N : Lim) (F : Nat → AV) (d : Nat) (x : Operand) (K : (Nat → AV) → Prop) : Prop :=
  match x with
  | .tmp t => match F t with
    | .bor .. => aTake F x fun F' ag cs => putD N F' d (.hold (kdOf ag) cs) K
    | .hold .one cs => bif noOwn cs then aMove F x fun av => putD N F d av K else aTake F x fun F' ag cs => putD N F' d (.hold (kdOf ag) cs) K
    | .hold .agg cs => bif noOwn cs then aMove F x fun av => putD N F d av K else aTake F x fun F' ag cs => putD N F' d (.hold (kdOf ag) cs) K
    | _ => aMove F x fun av => putD N F d av K
  | x => aMove F x fun av => putD N F d av K
/-- A place below the top, laid anew. -/
inductive Pu (bs : List C) (off : Nat) (st : Steps) (xs : List C) (K : List C → Prop) : Prop
  | mk_ (h : ∃ r j bs', rowAt bs off st = some (r, j) ∧ ownAt bs off st ∧ j + xs.length ≤ r.length ∧ bs' = updAt bs off st (splice r j xs) ∧ K bs')
theorem Pu.mk {bs bs' : List C} {off : Nat} {st : Steps} {xs : List C} {K : List C → Prop} {r : List C} {j : Nat} (h1 : rowAt bs off st = some (r, j)) (h2 : ownAt bs off st) (h3 : j + xs.length ≤ r.length) (h4 : bs' = updAt bs off st (splice r j xs)) (hK : K bs') : Pu bs off st xs K := by
  refine .mk_ ?_; exact ⟨r, j, bs', h1, h2, h3, h4, hK⟩
/-- One step: into element i of the slice at 'off'. -/
theorem Pu.one {bs bs' : List C} {off i k j : Nat} {xs : List C} {K : List C → Prop} {o : Own} {rows : List (List C)} {r : List C} (h1 : bs[off]? = some (.s o rows)) (ho : o.mine = true) (h2 : rows[i]? = some r) (h3 : r.length = k) (h4 : j + xs.length ≤ k)
    (h5 : bs' = bs.set off (.s o (rows.set i (splice r j xs)))) (hK : K bs') : Pu bs off [(i, k, j)] xs K := by
  have hoi : o ≠ .imm := fun e => by subst e; cases ho
  refine Pu.mk (r := r) (j := j) (by simp [rowAt, h1, h2, h3]) (by simp [ownAt, h1, h2, hoi]) (by omega) (by rw [h5]; simp [updAt, h1, h2]) hK
theorem Pu.out {bs : List C} {off : Nat} {st : Steps} {xs : List C} {K : List C → Prop} (h : Pu bs off st xs K) : ∃ r j, rowAt bs off st = some (r, j) ∧ ownAt bs off st ∧ j + xs.length ≤ r.length ∧ K (updAt bs off st (splice r j xs)) := by
  obtain ⟨h⟩ := h; obtain ⟨r, j, bs', h1, h2, h3, rfl, h4⟩ := h; exact ⟨r, j, h1, h2, h3, h4⟩
def aPutB (F : Nat → AV) (x : Operand) (cs : List C) (K : (Nat → AV) → Prop) : Prop :=
  match x with
  | .tmp tx => match F tx with
    | .hold .box bs => bif Nat.ble cs.length bs.length then fc (splice bs 0 cs) fun bs' => K (updH F tx .box bs') else False
    | .ref t off [] => (match F t with
      | .hold .box bs => bif Nat.ble (off + cs.length) bs.length then fc (splice bs off cs) fun bs' => K (updH F t .box bs') else False
      | _ => False)
    | .ref t off (s :: st) => (match F t with
      | .hold k bs => Pu bs off (s :: st) cs fun bs' => K (updH F t k bs')
      | _ => False)
    | _ => False
  | _ => False
def aStore (TE : Nat → Option TI) (F : Nat → AV) (T : Nat) (x y : Operand) (K : (Nat → AV) → Prop) : Prop :=
  match TE T with
  | some i => valA F (evA F y) fun _ cs => bif Nat.beq cs.length i.size then (bif noOwn cs then aPutB F x cs K else aTake F y fun F' _ cs => bif Nat.beq cs.length i.size then aPutB F' x cs K else False) else False
  | none => False
section
variable {P : Program} {w0 w w1 : World} {M S0 S : CellSet} {N : Lim} {φ : Nat → CellSet} {F : Nat → AV} {a : Act} {TE : Nat → Option TI}

theorem splice_full (cs xs : List C) (h : xs.length = cs.length) : splice cs 0 xs = xs := by simp [splice, h]
theorem StX.taken (h : StX w0 M S0 N S φ F a w) {y : Operand} {K : (Nat → AV) → Option Nat → List C → Prop} (hp : aTake F y K) :
    ∃ F' ag cs V φ', K F' ag cs ∧ StX w0 M S0 N S φ' F' a w ∧ ValOk w S V ag cs (a.eval y) ∧ (∀ b o, V b o → (∀ t, ¬ φ' t b o) ∧ ¬ S b o ∧ b < w.heap.size ∧ (w0.heap.size ≤ b ∨ M b o))  ∧ (∀ t b o, φ' t b o → φ t b o) ∧ (∀ b o, V b o → ∃ t, φ t b o) := by
  cases y with
  | tmp t =>
    have hs := h.slot t
    simp only [aTake] at hp
    have fin : ∀ (t2 off n : Nat) (k : Kd) (cs : List C), F t2 = .hold k cs → off + n ≤ cs.length → ∀ (ag : Option Nat), ag.getD 1 = n → (a.eval (.tmp t) = mkv ag fun j => topU w k (tvs a t2) (off + j)) →
        K (updH F t2 k (splice cs off (List.replicate n .x))) ag (takeA cs off n) →
        ∃ F' ag cs V φ', K F' ag cs ∧ StX w0 M S0 N S φ' F' a w ∧ ValOk w S V ag cs (a.eval (.tmp t)) ∧ (∀ b o, V b o → (∀ t, ¬ φ' t b o) ∧ ¬ S b o ∧ b < w.heap.size ∧ (w0.heap.size ≤ b ∨ M b o))  ∧ (∀ t b o, φ' t b o → φ t b o) ∧ (∀ b o, V b o → ∃ t, φ t b o) := by
      intro t2 off n k cs hF hl ag hag hv hK
      obtain ⟨V, X, h1, h2, hX, h3, h4⟩ := h.take hF hl
      refine ⟨_, ag, _, V, _, hK, h4, ⟨by simp [takeA]; omega, _, hv, h3⟩, fun b o hb => ⟨fun t' hb' => ?_, h.disS t2 b o (h1 b o hb), h.ex t2 b o (h1 b o hb)⟩, fun t' b o hb => ?_, fun b o hb => ⟨t2, h1 b o hb⟩⟩
      · by_cases ht : t' = t2
        · rw [if_pos ht] at hb'; exact h2 b o hb hb'
        · rw [if_neg ht] at hb'; exact h.dis t' t2 ht b o hb' (h1 b o hb)
      · by_cases ht : t' = t2
        · subst ht; rw [if_pos rfl] at hb; exact hX b o hb
        · rw [if_neg ht] at hb; exact hb
    cases hF : F t with
    | hold k cs =>
      rw [hF] at hp hs
      obtain ⟨X1, Y, -, -, -, h4, -⟩ := hs
      cases k with
      | one =>
        have hl : cs.length = 1 := h4
        refine fin t 0 cs.length .one cs hF (by omega) none (by simp [hl]) rfl ?_
        rw [show takeA cs 0 cs.length = cs by simp [takeA]]; exact hp
      | agg =>
        obtain ⟨arr, hv, hsz⟩ := h4
        refine fin t 0 cs.length .agg cs hF (by omega) (some cs.length) rfl ?_ ?_
        · show tvs a t = _
          rw [hv]
          have := mkv_agg arr
          rw [hsz] at this
          exact this.trans (mkv_congr fun j _ => by simp [topU, Value.cells])
        · rw [show takeA cs 0 cs.length = cs by simp [takeA]]; exact hp
      | _ => exact hp.elim
    | bor t2 off st ag =>
      rw [hF] at hp hs
      cases st with
      | cons s st => exact hp.elim
      | nil =>
        simp only at hp
        obtain ⟨k, cs, r, j, h1, h2, h3, h4⟩ := hs
        rw [h1] at hp
        simp only [rowAt, Option.some.injEq, Prod.mk.injEq] at h2
        obtain ⟨rfl, rfl⟩ := h2
        simp only at hp
        cases hb : Nat.ble (off + ag.getD 1) cs.length with
        | false => rw [hb] at hp; exact hp.elim
        | true =>
          rw [hb] at hp
          exact fin t2 off (ag.getD 1) k cs h1 h3 ag rfl (h4.trans rfl) hp
    | _ => rw [hF] at hp; exact hp.elim
  | _ => exact hp.elim
theorem StX.putD_new (h : StX w0 M S0 N S φ F a w) {d : Nat} {av : AV} {v : Value} {K : (Nat → AV) → Prop} (hv : NewR w S F a av v w1) (hp : putD N F d av K) : ∃ F', K F' ∧ St w0 M S0 N F' (a.put (some d) v) w1 := by
  unfold putD at hp
  cases hc : (N.free d && !av.uses d) with
  | false => rw [hc] at hp; exact hp.elim
  | true =>
    rw [hc] at hp
    simp only [Bool.and_eq_true, Bool.not_eq_true'] at hc
    exact ⟨_, hp, h.put_newR hc.1 hv hc.2⟩
theorem StX.putD_taken {φ' : Nat → CellSet} {F' : Nat → AV} (h : StX w0 M S0 N S φ' F' a w) {d : Nat} {ag : Option Nat} {cs : List C} {v : Value} {V : CellSet} {K : (Nat → AV) → Prop} (hv : ValOk w S V ag cs v)
    (hV : ∀ b o, V b o → (∀ t, ¬ φ' t b o) ∧ ¬ S b o ∧ b < w.heap.size ∧ (w0.heap.size ≤ b ∨ M b o)) (hp : putD N F' d (.hold (kdOf ag) cs) K) : ∃ F2, K F2 ∧ St w0 M S0 N F2 (a.put (some d) v) w := by
  unfold putD at hp
  cases hc : (N.free d && !(AV.hold (kdOf ag) cs).uses d) with
  | false => rw [hc] at hp; exact hp.elim
  | true =>
    rw [hc] at hp
    simp only [Bool.and_eq_true, Bool.not_eq_true'] at hc
    exact ⟨_, hp, S, _, h.put_gen (Keeps.refl _ _) hc.1 hv.slot hc.2 (fun b o hb => (hV b o hb).2.2) (fun t _ b o hb => (hV b o hb).1 t) (fun b o hb => (hV b o hb).2.1)⟩
theorem StX.assign (h : StX w0 M S0 N S φ F a w) {d : Nat} {x : Operand} {K : (Nat → AV) → Prop} (hp : aAssign N F d x K) : ∃ F', K F' ∧ St w0 M S0 N F' (a.put (some d) (a.eval x)) w := by
  have mv : aMove F x (fun av => putD N F d av K) → ∃ F', K F' ∧ St w0 M S0 N F' (a.put (some d) (a.eval x)) w := fun hm => by
    obtain ⟨av, hK, hs⟩ := h.move hm
    exact h.putD_new (NewR.same hs) hK
  have tk : aTake F x (fun F' ag cs => putD N F' d (.hold (kdOf ag) cs) K) → ∃ F', K F' ∧ St w0 M S0 N F' (a.put (some d) (a.eval x)) w := fun hm => by
    obtain ⟨F', ag, cs, V, φ', hK, h', hv, hV, -⟩ := h.taken hm
    exact h'.putD_taken hv hV hK
  cases x with
  | tmp t =>
    simp only [aAssign] at hp
    split at hp
    · exact tk hp
    · rename_i cs _
      cases hn : noOwn cs with
      | true => rw [hn] at hp; exact mv hp
      | false => rw [hn] at hp; exact tk hp
    · rename_i cs _
      cases hn : noOwn cs with
      | true => rw [hn] at hp; exact mv hp
      | false => rw [hn] at hp; exact tk hp
    · exact mv hp
  | const v => exact mv hp
  | global g => exact mv hp
  | func f => exact mv hp
/-- A store at a place below the top. -/
theorem StX.storeSt (h : StX w0 M S0 N S φ F a w) {t : Nat} {k : Kd} {bs cs r : List C} {off j : Nat} {st : Steps} (hF : F t = .hold k bs) (hst : st ≠ []) (hr : rowAt bs off st = some (r, j)) (ho : ownAt bs off st) (hl : j + cs.length ≤ r.length) {V : CellSet} {u : Nat → Value} (hrow : Row w S V cs u)
    (hV : Free w0 M S φ w V) {T : Nat} (hsz : (P.info? T).map (·.size) = some cs.length) {v : Value} (hv : v.cells.toList = (List.range cs.length).map u) {g o : Nat} (hp : plc w (topU w k (tvs a t)) (topA k (tvs a t)) off st = some (g, o)) :
    ∃ w1, (Instr.storeAt T (.pointer (some ⟨g, o, none⟩)) v).run P w = .ok () w1 ∧ St w0 M S0 N (updH F t k (updAt bs off st (splice r j cs))) a w1 := by
  obtain ⟨g', b, u', Y, e1, e2, e3, e4, e5, e6⟩ := h.focus hF hst hr ho
  rw [e4] at hp
  simp only [Option.some.injEq, Prod.mk.injEq] at hp
  obtain ⟨rfl, rfl⟩ := hp
  have hvl : v.cells.toList.length = cs.length := by rw [hv]; simp
  have hvs : v.cells.size = cs.length := by simpa using hvl
  have hin : ∀ d, d < cs.length → (∃ z, cel w g' (b + j + d) = some z) ∧ fro w g' (b + j + d) = NF := fun d hd => by
    obtain ⟨-, -, a3, a4⟩ := e5 (j + d) (by omega)
    rw [Nat.add_assoc]
    exact ⟨⟨_, a3⟩, a4⟩
  have hone : ∀ x ∈ v.cells.toList, x.oneCell' = true := fun x hx => by
    rw [hv] at hx
    obtain ⟨d, hd, rfl⟩ := List.mem_map.1 hx
    exact hrow.one (List.mem_range.1 hd)
  have hrun := run_storeCells_cells (P := P) g' (b + j) v.cells.toList 0 w (fun d hd => by obtain ⟨z, hz⟩ := (hin d (by omega)).1; simp only [Nat.add_zero]; show (cel w g' (b + j + d)).isSome = true; rw [hz]; rfl)
    (fun d hd => by simp only [Nat.add_zero]; exact congrArg Prod.fst (hin d (by omega)).2) hone
  simp only [Nat.add_zero] at hrun
  have hk : Keeps (fun x o => x = g' ∧ b + j ≤ o ∧ o < b + j + cs.length) w (w.setCells g' (b + j) v.cells.toList) := keeps_setCells _ _ _ fun d hd => ⟨rfl, by omega, by omega⟩
  have hgv : ∀ d, d < cs.length → v.cells.toList[d]? = some (u d) := fun d hd => by rw [hv, List.getElem?_map, List.getElem?_range hd]; rfl
  have hSS : SameOn S w (w.setCells g' (b + j) v.cells.toList) := fun x o hx => ⟨hk.cel x o (h.sup x o hx).1 (fun hc => by
    have := (e5 (o - b) (by omega)).1
    rw [show b + (o - b) = o by omega, ← hc.1] at this
    exact h.disS t x o this hx), fro_setCells _ _ _ _ _ _⟩
  have hYY : SameOn Y w (w.setCells g' (b + j) v.cells.toList) := fun x o hx => ⟨hk.cel x o (h.ex t x o (e1 x o hx)).1 (fun hc => by
    have := (e5 (o - b) (by omega)).2.1
    rw [show b + (o - b) = o by omega, ← hc.1] at this
    exact this hx), fro_setCells _ _ _ _ _ _⟩
  have hVV : SameOn V w (w.setCells g' (b + j) v.cells.toList) := fun x o hx => ⟨hk.cel x o (hV x o hx).2.2.1 (fun hc => by
    have := (e5 (o - b) (by omega)).1
    rw [show b + (o - b) = o by omega, ← hc.1] at this
    exact (hV x o hx).1 t this), fro_setCells _ _ _ _ _ _⟩
  refine ⟨_, by simp [Instr.storeAt, Instr.sureAddr, storeVar, run_size hsz, hvs, hrun], S, _, e6 _ (splice r j cs) (fun d => if j ≤ d ∧ d < j + cs.length then u (d - j) else u' d) (fun x o => Y x o ∨ V x o) _ hk (fun x o hx => .inr ⟨hx.1, by omega, by omega⟩) (fun d hd => ⟨?_, by rw [fro_setCells]; exact (e5 d hd).2.2.2⟩) (splice_len hl) ((e2.keep hSS hYY).join (hrow.keep hSS hVV) hl (fun x o hx hx' => (hV x o hx').1 t (e1 x o hx))) (fun x o hx => hx.imp id (hV x o))⟩
  by_cases hq : j ≤ d ∧ d < j + cs.length
  · rw [if_pos hq]
    have := cel_setCells_in (w := w) (g := g') (o := b + j) (vs := v.cells.toList) (fun d hd => (hin d (by omega)).1) (hgv (d - j) (by omega))
    rw [show b + j + (d - j) = b + d by omega] at this
    exact this
  · rw [if_neg hq, cel_setCells_out (by omega)]
    exact (e5 d hd).2.2.1
theorem StX.putB (h : StX w0 M S0 N S φ F a w) {T : Nat} {x : Operand} {cs : List C} {v : Value} {V : CellSet} {ag : Option Nat} {K : (Nat → AV) → Prop} (hv : ValOk w S V ag cs v)
    (hV : ∀ b o, V b o → (∀ t, ¬ φ t b o) ∧ ¬ S b o ∧ b < w.heap.size ∧ (w0.heap.size ≤ b ∨ M b o)) (hsz : (P.info? T).map (·.size) = some cs.length) (hp : aPutB F x cs K) :
    ∃ F' w1, K F' ∧ (Instr.storeAt T (a.eval x) v).run P w = .ok () w1 ∧ St w0 M S0 N F' a w1 := by
  obtain ⟨u, hu, hr⟩ := hv.cells
  cases x with
  | tmp tx =>
    have hs := h.slot tx
    show ∃ F' w1, K F' ∧ (Instr.storeAt T (tvs a tx) v).run P w = .ok () w1 ∧ _
    simp only [aPutB] at hp
    cases hF : F tx with
    | hold k bs =>
      rw [hF] at hp hs
      cases k with
      | box =>
        simp only at hp
        cases hb : Nat.ble cs.length bs.length with
        | false => rw [hb] at hp; exact hp.elim
        | true =>
          rw [hb] at hp
          simp only [cond_true, fc_eq] at hp
          obtain ⟨X1, Y, -, -, -, ⟨g, o, hpt, -⟩, -⟩ := hs
          obtain ⟨w1, hrun, hst⟩ := h.store (P := P) hF (off := 0) (by simpa using Nat.le_of_ble_eq_true hb) hr hV hsz hu (g := g) (o := o) (by rw [hpt]; rfl)
          exact ⟨_, w1, hp, by rw [hpt]; exact hrun, hst⟩
      | _ => exact hp.elim
    | ref t off st =>
      rw [hF] at hp hs
      cases st with
      | cons s st =>
        simp only at hp
        obtain ⟨k, cs', r, j, g, o, h1, h2, h3, h4⟩ := hs
        rw [h1] at hp
        obtain ⟨r', j', e1, e2, e3, hK⟩ := hp.out
        obtain ⟨w1, hrun, hst⟩ := h.storeSt (P := P) h1 (by simp) e1 e2 e3 hr hV hsz hu h3
        exact ⟨_, w1, hK, by rw [h4]; exact hrun, hst⟩
      | nil =>
        simp only at hp
        obtain ⟨k, cs', r, j, g, o, h1, h2, h3, h4⟩ := hs
        rw [h1] at hp
        cases k with
        | box =>
          simp only at hp
          cases hb : Nat.ble (off + cs.length) cs'.length with
          | false => rw [hb] at hp; exact hp.elim
          | true =>
            rw [hb] at hp
            simp only [cond_true, fc_eq] at hp
            obtain ⟨w1, hrun, hst⟩ := h.store (P := P) h1 (Nat.le_of_ble_eq_true hb) hr hV hsz hu h3
            exact ⟨_, w1, hp, by rw [h4]; exact hrun, hst⟩
        | _ => exact hp.elim
    | _ => rw [hF] at hp; exact hp.elim
  | _ => exact hp.elim
theorem StX.storeOp (h : StX w0 M S0 N S φ F a w) (hTE : ∀ t i, TE t = some i → TOk P t i) {T : Nat} {x y : Operand} {K : (Nat → AV) → Prop} (hp : aStore TE F T x y K) :
    ∃ F' w1, K F' ∧ (Instr.storeAt T (a.eval x) (a.eval y)).run P w = .ok () w1 ∧ St w0 M S0 N F' a w1 := by
  unfold aStore at hp
  split at hp
  case h_2 => exact hp.elim
  rename_i i hT
  have hsz := (hTE _ _ hT).size
  obtain ⟨ag, cs, Y, hK, hv, -⟩ := h.val (h.ev y) hp
  cases hl : Nat.beq cs.length i.size with
  | false => rw [hl] at hK; exact hK.elim
  | true =>
    rw [hl] at hK
    simp only [cond_true] at hK
    cases hn : noOwn cs with
    | true =>
      rw [hn] at hK
      exact h.putB (V := NO) (hv.bare hn) (fun _ _ h => h.elim) (by rw [hsz, Nat.eq_of_beq_eq_true hl]) hK
    | false =>
      rw [hn] at hK
      simp only [cond_false] at hK
      obtain ⟨F', ag', cs', V, φ', hK', h', hv', hV, -⟩ := h.taken hK
      cases hl' : Nat.beq cs'.length i.size with
      | false => rw [hl'] at hK'; exact hK'.elim
      | true =>
        rw [hl'] at hK'
        exact h'.putB hv' hV (by rw [hsz, Nat.eq_of_beq_eq_true hl']) hK'
end
end Go.Proofs.YthinjmmlpgjhnaaGreat.Ab
