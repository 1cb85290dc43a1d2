/- Maps keyed by numbers: made, looked up, written, on abstract frames. No condition. -/
import Derived.Test.YthinjmmlpgjhnaaGreatAbI
import Derived.MapKept
import Derived.Carry
namespace Go.Proofs.YthinjmmlpgjhnaaGreat.Ab
open Go.RowKit

def mlook : List (Int × Value) → Int → Value → Value
  | [], _, d => d
  | p :: es, k, d => if p.1 = k then p.2 else mlook es k d
def mput : List (Int × Value) → Int → Value → List (Int × Value)
  | [], k, v => [(k, v)]
  | p :: es, k, v => if p.1 = k then (k, v) :: es else p :: mput es k v
/-- What a map holds at a key. -/
inductive Ml (es : List (Int × Value)) (k : Int) (d : Value) (K : Value → Prop) : Prop
  | mk_ (h : ∃ v, mlook es k d = v ∧ K v)
theorem Ml.mk {es : List (Int × Value)} {k : Int} {d v : Value} {K : Value → Prop} (h : mlook es k d = v) (hK : K v) : Ml es k d K := .mk_ ⟨v, h, hK⟩
theorem Ml.out {es : List (Int × Value)} {k : Int} {d : Value} {K : Value → Prop} (h : Ml es k d K) : K (mlook es k d) := by
  obtain ⟨v, rfl, h⟩ := h; exact h
/-- A map, written at a key. -/
inductive Mu (es : List (Int × Value)) (k : Int) (v : Value) (K : List (Int × Value) → Prop) : Prop
  | mk_ (h : ∃ es', es' = mput es k v ∧ K es')
theorem Mu.mk {es es' : List (Int × Value)} {k : Int} {v : Value} {K : List (Int × Value) → Prop} (h : es' = mput es k v) (hK : K es') : Mu es k v K := .mk_ ⟨es', h, hK⟩
theorem Mu.out {es : List (Int × Value)} {k : Int} {v : Value} {K : List (Int × Value) → Prop} (h : Mu es k v K) : K (mput es k v) := by
  obtain ⟨v, rfl, h⟩ := h; exact h
def aMakeMap (TE : Nat → Option TI) (T : Nat) (r : Option Operand) (K : AV → Prop) : Prop :=
  match TE T, r with
  | some ⟨_, _, _, .mp _ _ _⟩, none => K (.hold .one [.m []])
  | _, _ => False
def aLook (TE : Nat → Option TI) (F : Nat → AV) (T : Nat) (x y : Operand) (ok : Bool) (K : AV → Prop) : Prop :=
  match TE T with
  | some ⟨_, _, _, .mp _ _ d⟩ => bif ok then False else valA F (evA F x) fun ag cs => match ag, cs with
    | none, [.m es] => scA F y fun v => match v with
      | .int .i64 z => Ml es z d fun v' => K (.hold .one [.v v'])
      | _ => False
    | _, _ => False
  | _ => False
def putMap (F : Nat → AV) (t off : Nat) (z : Int) (v : Value) (K : (Nat → AV) → Prop) : Prop :=
  match F t with
  | .hold k bs => match bs[off]? with
    | some (.m es) => Mu es z v fun es' => fc (splice bs off [.m es']) fun bs' => K (updH F t k bs')
    | _ => False
  | _ => False
def aMapUpd (TE : Nat → Option TI) (F : Nat → AV) (T : Nat) (x y v : Operand) (K : (Nat → AV) → Prop) : Prop :=
  match TE T with
  | some ⟨_, _, _, .mp _ _ _⟩ => scA F y fun vy => scA F v fun vv => match vy with
    | .int .i64 z => (match x with
      | .tmp s => (match F s with
        | .bor t off [] none => putMap F t off z vv K
        | .hold .one _ => putMap F s 0 z vv K
        | _ => False)
      | _ => False)
    | _ => False
  | _ => False

def mfind : List (Int × Value) → Int → Nat → Option (Nat × Value)
  | [], _, _ => none
  | p :: es, k, i => if p.1 = k then some (i, p.2) else mfind es k (i + 1)
section
variable {P : Program} {w0 w w1 : World} {M S0 S : CellSet} {N : Lim} {φ : Nat → CellSet} {F : Nat → AV} {a : Act} {TE : Nat → Option TI}

theorem findNow_eq (z : Int) : ∀ (l : List MapEntry) (es : List (Int × Value)) (i : Nat), l.map (fun e => (e.key, e.val)) = es.map (fun p => (Value.int .i64 p.1, p.2)) → Instr.findNow (.int .i64) (.int .i64 z) l i = some (mfind es z i)
  | [], es, i, h => by
    cases es with
    | nil => rfl
    | cons _ _ => simp at h
  | e :: l, es, i, h => by
    cases es with
    | nil => simp at h
    | cons p es =>
      simp only [List.map_cons, List.cons.injEq, Prod.mk.injEq] at h
      obtain ⟨⟨h1, h2⟩, h3⟩ := h
      have ih := findNow_eq z l es (i + 1) h3
      simp only [Instr.findNow, h1, Instr.sameNow, if_true, mfind]
      by_cases hz : p.1 = z
      · have : (z == p.1) = true := by simp [hz]
        rw [this, if_pos hz, h2]
      · have : (z == p.1) = false := by simp; exact fun e => hz e.symm
        rw [this, if_neg hz]
        exact ih
theorem mlook_find (d : Value) : ∀ (es : List (Int × Value)) (z : Int) (i : Nat), mlook es z d = ((mfind es z i).map (·.2)).getD d
  | [], z, i => rfl
  | p :: es, z, i => by
    simp only [mlook, mfind]
    split
    · rfl
    · exact mlook_find d es z (i + 1)
theorem mp_some {b : Nat} {es : Array MapEntry} {clock : Nat} (h : mp w b = some (es, clock)) : w.heap[b]? = some (.map es clock) := by
  unfold mp at h
  split at h
  · rename_i e c h1; simp only [Option.some.injEq, Prod.mk.injEq] at h; obtain ⟨rfl, rfl⟩ := h; exact h1
  · cases h
theorem look_run {T kt et : Nat} {d : Value} (hT : P.underlying T = some (.map kt et)) (hk : P.underlying kt = some (.int .i64)) (hz : (P.info? et).bind (·.zero) = some d) {b clock : Nat} {ents : Array MapEntry} {es : List (Int × Value)} (hb : mp w b = some (ents, clock))
    (he : ents.toList.map (fun e => (e.key, e.val)) = es.map (fun p => (Value.int .i64 p.1, p.2))) (z : Int) : (Instr.lookup T (.map (some b)) (.int .i64 z) false).run P w = .ok (mlook es z d) w := by
  have h1 := MapKept.run_getObj_map (P := P) (mp_some hb)
  have h2 : ∀ e, (Instr.checkKey e 10000 kt (.int .i64 z)).run P w = .ok () w := fun e => MapKept.run_checkKey hk (show MapKept.IsKey (.int .i64) (.int .i64 z) from rfl) e 9999
  have h3 := MapKept.run_findKey (P := P) (w := w) hk (findNow_eq z ents.toList es 0 he)
  have h4 : (zeroValue et).run P w = .ok d w := by
    cases hq : P.info? et with
    | none => rw [hq] at hz; cases hz
    | some q => rw [hq] at hz; simp only [Option.bind_some] at hz; simp [zeroValue, typeInfo, hq, hz]
  rw [mlook_find d es z 0]
  cases hf : mfind es z 0 with
  | none => rw [hf] at h3; simp [Instr.lookup, run_underlying hT, h1, h2, h3, h4, Result.andThen]
  | some p => rw [hf] at h3; simp [Instr.lookup, run_underlying hT, h1, h2, h3, Result.andThen]
theorem mlook_one {d : Value} (hd : d.oneCell' = true) : ∀ {es : List (Int × Value)} (z : Int), (∀ p ∈ es, p.2.oneCell' = true) → (mlook es z d).oneCell' = true
  | [], _, _ => hd
  | p :: es, z, h => by
    simp only [mlook]
    split
    · exact h p (List.mem_cons_self ..)
    · exact mlook_one hd z fun q hq => h q (List.mem_cons_of_mem _ hq)
theorem rep_m {Y : CellSet} {es : List (Int × Value)} {v : Value} (h : Rep w S Y (.m es) v) : ∃ b clock ents, v = .map (some b) ∧ (∀ o, Y b o) ∧ mp w b = some (ents, clock) ∧ ents.toList.map (fun e => (e.key, e.val)) = es.map (fun p => (Value.int .i64 p.1, p.2)) ∧ ∀ p ∈ es, p.2.oneCell' = true := by
  generalize hc : C.m es = c at h
  cases h with
  | m _ b clock es' ents hF hb he hv => cases hc; exact ⟨b, clock, ents, rfl, hF, hb, he, hv⟩
  | _ => cases hc
theorem StX.look (h : StX w0 M S0 N S φ F a w) (hTE : ∀ t i, TE t = some i → TOk P t i) {T : Nat} {x y : Operand} {ok : Bool} {K : AV → Prop} (hp : aLook TE F T x y ok K) :
    ∃ v, K (.hold .one [.v v]) ∧ v.oneCell' = true ∧ (Instr.lookup T (a.eval x) (a.eval y) ok).run P w = .ok v w := by
  unfold aLook at hp
  split at hp
  case h_2 => exact hp.elim
  rename_i hT
  obtain ⟨h1, h2, h3, h4⟩ := (hTE _ _ hT).2.2
  cases ok with
  | true => exact hp.elim
  | false =>
    obtain ⟨ag, cs, Y, hK, hv, -⟩ := h.val (h.ev x) hp
    match ag, cs, hK with
    | none, [.m es], hK =>
      obtain ⟨hy, -⟩ := h.scalar hK
      cases hvy : a.eval y with
      | int k z =>
        rw [hvy] at hy
        cases k with
        | i64 =>
          obtain ⟨b, clock, ents, hx, -, hb, he, hes⟩ := rep_m hv.rep1
          exact ⟨_, hy.out, mlook_one h4 z hes, by rw [hx]; exact look_run h1 h2 h3 hb he z⟩
        | _ => exact hy.elim
      | _ => rw [hvy] at hy; exact hy.elim
theorem heap_set_map {b : Nat} {o : Obj} (hb : b < w.heap.size) (b' : Nat) : ({ w with heap := w.heap.setIfInBounds b o } : World).heap[b']? = if b' = b then some o else w.heap[b']? := by
  show (w.heap.setIfInBounds b o)[b']? = _
  rw [Array.getElem?_setIfInBounds]
  by_cases h : b' = b
  · subst h; rw [if_pos rfl, if_pos rfl]; simp [hb]
  · rw [if_neg h, if_neg fun e => h e.symm]
theorem mput_map (z : Int) (v : Value) (clock : Nat) : ∀ (l : List MapEntry) (es : List (Int × Value)) (i : Nat), l.map (fun e => (e.key, e.val)) = es.map (fun p => (Value.int .i64 p.1, p.2)) →
    (match mfind es z i with
      | some p => i ≤ p.1 ∧ p.1 - i < l.length ∧ (l[p.1 - i]?).map (·.key) = some (.int .i64 z) ∧ (l.modify (p.1 - i) fun e => { e with key := .int .i64 z, val := v }).map (fun e => (e.key, e.val)) = (mput es z v).map (fun p => (Value.int .i64 p.1, p.2))
      | none => (l ++ [({ key := .int .i64 z, val := v, born := clock } : MapEntry)]).map (fun e => (e.key, e.val)) = (mput es z v).map (fun p => (Value.int .i64 p.1, p.2)))
  | [], es, i, h => by
    cases es with
    | nil => rfl
    | cons _ _ => simp at h
  | e :: l, es, i, h => by
    cases es with
    | nil => simp at h
    | cons p es =>
      simp only [List.map_cons, List.cons.injEq, Prod.mk.injEq] at h
      obtain ⟨⟨h1, h2⟩, h3⟩ := h
      have ih := mput_map z v clock l es (i + 1) h3
      simp only [mfind, mput]
      by_cases hz : p.1 = z
      · simp only [if_pos hz]
        refine ⟨Nat.le_refl _, by simp, by simp [h1, hz], ?_⟩
        rw [Nat.sub_self]
        simp only [List.modify_zero_cons, List.map_cons, h3]
      · simp only [if_neg hz]
        cases hf : mfind es z (i + 1) with
        | none =>
          rw [hf] at ih
          simp only [List.cons_append, List.map_cons, h1, h2] at ih ⊢
          rw [ih]
        | some q =>
          rw [hf] at ih
          simp only at ih ⊢
          obtain ⟨e1, e2, e3, e4⟩ := ih
          have he : q.1 - i = (q.1 - (i + 1)) + 1 := by omega
          rw [he]
          refine ⟨by omega, by simp; omega, by simpa using e3, ?_⟩
          rw [List.modify_succ_cons, List.map_cons, List.map_cons, e4, h1, h2]
theorem upd_run {T kt et : Nat} (hT : P.underlying T = some (.map kt et)) (hk : P.underlying kt = some (.int .i64)) {b clock : Nat} {ents : Array MapEntry} {es : List (Int × Value)} (hb : mp w b = some (ents, clock))
    (he : ents.toList.map (fun e => (e.key, e.val)) = es.map (fun p => (Value.int .i64 p.1, p.2))) (z : Int) (v : Value) : ∃ ents' clock', (Instr.mapUpdate T (.map (some b)) (.int .i64 z) v).run P w = .ok () { w with heap := w.heap.setIfInBounds b (.map ents' clock') } ∧
      ents'.toList.map (fun e => (e.key, e.val)) = (mput es z v).map (fun p => (Value.int .i64 p.1, p.2)) := by
  have h0 := mp_some hb
  have h1 := MapKept.run_getObj_map (P := P) h0
  have h2 : ∀ e, (Instr.checkKey e 10000 kt (.int .i64 z)).run P w = .ok () w := fun e => MapKept.run_checkKey hk (show MapKept.IsKey (.int .i64) (.int .i64 z) from rfl) e 9999
  have h3 := MapKept.run_findKey (P := P) (w := w) hk (findNow_eq z ents.toList es 0 he)
  have h4 := mput_map z v clock ents.toList es 0 he
  cases hf : mfind es z 0 with
  | none =>
    rw [hf] at h3 h4
    simp only at h4
    refine ⟨ents.push { key := .int .i64 z, val := v, born := clock }, clock + 1, ?_, by rw [Array.toList_push]; exact h4⟩
    simp [Instr.mapUpdate, run_underlying hT, h1, h2, h3, Result.andThen, MapKept.run_setObj_map _ h0]
  | some q =>
    rw [hf] at h3 h4
    simp only [Nat.sub_zero] at h4
    obtain ⟨-, e2, e3, e4⟩ := h4
    refine ⟨ents.modify q.1 fun e => { e with key := .int .i64 z, val := v }, clock, ?_, by rw [Array.toList_modify]; exact e4⟩
    have hkey : ((ents[q.1]?).map (·.key)).getD (.int .i64 z) = .int .i64 z := by
      rw [show ents[q.1]? = ents.toList[q.1]? by simp, e3]; rfl
    have hst : (Instr.keyThatStays (.int .i64 z) (.int .i64 z)).run P w = .ok (.int .i64 z) w := by
      have : Instr.sameBits 10000 (.int .i64 z) (.int .i64 z) = true := by simp [Instr.sameBits]
      simp [Instr.keyThatStays, this]
    simp [Instr.mapUpdate, run_underlying hT, h1, h2, h3, Result.andThen, hkey, hst, MapKept.run_setObj_map _ h0]
theorem mput_one {v : Value} (hv : v.oneCell' = true) : ∀ {es : List (Int × Value)} (z : Int), (∀ p ∈ es, p.2.oneCell' = true) → ∀ p ∈ mput es z v, p.2.oneCell' = true
  | [], z, _, p, hp => by simp [mput] at hp; subst hp; exact hv
  | q :: es, z, h, p, hp => by
    simp only [mput] at hp
    split at hp
    · rcases List.mem_cons.1 hp with rfl | hp
      · exact hv
      · exact h p (List.mem_cons_of_mem _ hp)
    · rcases List.mem_cons.1 hp with rfl | hp
      · exact h _ (List.mem_cons_self ..)
      · exact mput_one hv z (fun q hq => h q (List.mem_cons_of_mem _ hq)) p hp
theorem StX.putMap (h : StX w0 M S0 N S φ F a w) {T kt et : Nat} (hT : P.underlying T = some (.map kt et)) (hk : P.underlying kt = some (.int .i64)) {t off : Nat} {z : Int} {v : Value} (hv : v.oneCell' = true) {K : (Nat → AV) → Prop} (hp : Ab.putMap F t off z v K) {x : Value}
    (hx : ∀ k bs, F t = .hold k bs → x = topU w k (tvs a t) off) : ∃ F' w1, K F' ∧ (Instr.mapUpdate T x (.int .i64 z) v).run P w = .ok () w1 ∧ St w0 M S0 N F' a w1 := by
  unfold Ab.putMap at hp
  split at hp
  case h_2 => exact hp.elim
  rename_i k bs hF
  split at hp
  case h_2 => exact hp.elim
  rename_i es hc
  have hK := hp.out
  simp only [fc_eq] at hK
  have hoff := (List.getElem?_eq_some_iff.1 hc).1
  have hs := h.slot t
  rw [hF] at hs
  obtain ⟨X1, Y, e1, e2, e3, e4, f, f1, f2, f3⟩ := hs
  obtain ⟨b, clock, ents, hxv, hown, hb, he, hes⟩ := rep_m (f1 off _ hc)
  obtain ⟨ents', clock', hrun, he'⟩ := upd_run (P := P) hT hk hb he z v
  have hlt : b < w.heap.size := (h.ex t b 0 (e2 _ _ (f2 off hoff _ _ (hown 0)))).1
  have hh := fun b' => heap_set_map (w := w) (b := b) (o := .map ents' clock') hlt b'
  let w1 : World := { w with heap := w.heap.setIfInBounds b (.map ents' clock') }
  have hother : ∀ b', b' ≠ b → ∀ o, cel w1 b' o = cel w b' o ∧ fro w1 b' o = fro w b' o := fun b' hne o => by
    have hb' : w1.heap[b']? = w.heap[b']? := (hh b').trans (if_neg hne)
    refine ⟨?_, Prod.ext ?_ ?_⟩
    · show World.cell? w1 _ = World.cell? w _
      unfold World.cell?; simp only [hb']
    · show World.frozen? w1 _ = World.frozen? w _
      unfold World.frozen?; simp only [hb']
    · show mp w1 b' = mp w b'
      unfold mp; rw [hb']
  have hcelb : ∀ o, cel w1 b o = cel w b o := fun o => by
    have h1 : w1.heap[b]? = some (.map ents' clock') := (hh b).trans (if_pos rfl)
    have h2 := mp_some hb
    show World.cell? w1 _ = World.cell? w _
    unfold World.cell?; simp [h1, h2]
  have hk1 : Keeps (φ t) w w1 := by
    refine ⟨rfl, rfl, rfl, by simp [w1], fun b' hb' hn => (hh b').trans (if_neg fun e => ?_), fun b' o hb' hn => ?_, fun b' o hb' hn => ?_⟩
    · subst e; exact hn 0 (e2 _ _ (f2 off hoff _ _ (hown 0)))
    · by_cases e : b' = b
      · subst e; exact hcelb o
      · exact (hother b' e o).1
    · by_cases e : b' = b
      · subst e; exact absurd (e2 _ _ (f2 off hoff _ _ (hown o))) hn
      · exact (hother b' e o).2
  have hsame : ∀ X : CellSet, (∀ b' o, X b' o → b' ≠ b) → SameOn X w w1 := fun X hX b' o hb' => hother b' (hX b' o hb') o
  have hX1 : SameOn X1 w w1 := hsame X1 fun b' o hb' e => by subst e; exact e3 b' o hb' (f2 off hoff _ _ (hown o))
  have hS1 : SameOn S w w1 := hsame S fun b' o hb' e => by subst e; exact h.disS t _ _ (e2 _ _ (f2 off hoff _ _ (hown o))) hb'
  have htop := topU_same e4 hX1
  have hsl : (splice bs off [.m (mput es z v)]).length = bs.length := splice_len (by simp; omega)
  refine ⟨_, w1, hK, ?_, S, _, h.upd (X := φ t) hk1 hF (fun b o hb => .inl hb) ⟨X1, Y, e1, e2, e3, ?_, f, fun j c hj => ?_, fun j hj => f2 j (by omega), fun j j' hj hj' => f3 j j' (by omega) (by omega)⟩⟩
  · rw [hx k bs hF, hxv]; exact hrun
  · rw [hsl]
    exact e4.keep hX1 (fun _ _ h => h)
  · rw [splice_get (by simp; omega)] at hj
    by_cases hjo : off ≤ j ∧ j < off + [C.m (mput es z v)].length
    · rw [if_pos hjo] at hj
      simp only [List.length_cons, List.length_nil] at hjo
      obtain rfl : j = off := by omega
      simp only [Nat.sub_self, List.getElem?_cons_zero, Option.some.injEq] at hj
      subst hj
      rw [htop j hoff, hxv]
      exact .m _ b clock' _ ents' hown (by show mp w1 b = _; unfold mp; rw [(hh b).trans (if_pos rfl)]) he' (mput_one hv z hes)
    · rw [if_neg hjo] at hj
      have hjl := (List.getElem?_eq_some_iff.1 hj).1
      rw [htop j hjl]
      simp only [List.length_cons, List.length_nil] at hjo
      exact (f1 j c hj).keep hS1 (hsame (f j) fun b' o hb' e => by subst e; exact f3 j off hjl hoff (by omega) _ _ hb' (hown o))
theorem StX.mapUpd (h : StX w0 M S0 N S φ F a w) (hTE : ∀ t i, TE t = some i → TOk P t i) {T : Nat} {x y v : Operand} {K : (Nat → AV) → Prop} (hp : aMapUpd TE F T x y v K) :
    ∃ F' w1, K F' ∧ (Instr.mapUpdate T (a.eval x) (a.eval y) (a.eval v)).run P w = .ok () w1 ∧ St w0 M S0 N F' a w1 := by
  unfold aMapUpd at hp
  split at hp
  case h_2 => exact hp.elim
  rename_i hT
  obtain ⟨h1, h2, -, -⟩ := (hTE _ _ hT).2.2
  obtain ⟨hy, -⟩ := h.scalar hp
  obtain ⟨hvv, hone⟩ := h.scalar hy
  cases hvy : a.eval y with
  | int k z =>
    rw [hvy] at hvv
    cases k with
    | i64 =>
      simp only at hvv
      cases x with
      | tmp s =>
        simp only at hvv
        have hsl := h.slot s
        split at hvv
        · rename_i t off hF
          rw [hF] at hsl
          obtain ⟨k, cs, r, j, g1, g2, g3, g4⟩ := hsl
          refine h.putMap h1 h2 hone hvv fun k' bs e => ?_
          rw [g1] at e
          cases e
          exact g4
        · rename_i cs hF
          refine h.putMap h1 h2 hone hvv fun k' bs e => ?_
          rw [hF] at e
          cases e
          rfl
        · exact hvv.elim
      | _ => exact hvv.elim
    | _ => exact hvv.elim
  | _ => rw [hvy] at hvv; exact hvv.elim
theorem StX.makeMap (h : StX w0 M S0 N S φ F a w) (hTE : ∀ t i, TE t = some i → TOk P t i) {T : Nat} {r : Option Operand} {K : AV → Prop} (hp : aMakeMap TE T r K) :
    ∃ av v w1, K av ∧ (Instr.makeMap T (r.map a.eval)).run P w = .ok v w1 ∧ NewR w S F a av v w1 := by
  unfold aMakeMap at hp
  split at hp
  case h_2 => exact hp.elim
  refine ⟨_, _, _, hp, run_makeMap T w, keeps_alloc w _, fun b _ => b = w.heap.size, S, fun b o e => ⟨by rw [size_alloc]; omega, by omega⟩, fun _ _ h => h, fun _ _ h => .inl h, fun b o e hS => ?_, ?_⟩
  · have := (h.sup b o hS).1; omega
  · refine one_row (.m _ w.heap.size 0 [] #[] (fun _ => rfl) ?_ rfl (fun p hp => by simp at hp))
    unfold mp
    rw [heap_alloc_new]
end
end Go.Proofs.YthinjmmlpgjhnaaGreat.Ab
