/- Calls that only read what they are handed, on abstract frames; all slot-only operations together. No condition. -/
import Derived.Test.YthinjmmlpgjhnaaGreatAbMp
namespace Go.Proofs.YthinjmmlpgjhnaaGreat.Ab
open Go.RowKit

/-- What is handed to a call that only reads it. -/
inductive RA where
  | val (ag : Option Nat) (cs : List C)
def RaOk (w : World) (S : CellSet) : RA → Value → Prop
  | .val ag cs, v => ValOk w S NO ag cs v
def RAs (w : World) (S : CellSet) : List RA → List Value → Prop
  | [], [] => True
  | A :: As, v :: vs => RaOk w S A v ∧ RAs w S As vs
  | _, _ => False
/-- Function f can be called. -/
def Has (P : Program) (f : Nat) : Prop := ∃ fn, P.funcs[f]? = some fn ∧ (fn.name == "runtime.NumGoroutine") = false ∧ fn.body.isSome = true
/-- Called with the data A, function f returns the cells rcs, held as k says. sh: what it returns may share memory with what it was handed. -/
structure CallsA (P : Program) (f : Nat) (sh : Bool) (A : List RA) (k : Kd) (rcs : List C) : Prop where
  has : Has P f
  run : ∀ (w : World) (S : CellSet) (vs : List Value), (∀ b o, S b o → b < w.heap.size) → RAs w S A vs →
    Calls P f vs.toArray w fun e w1 => ∃ v, e = .returned v ∧ Keeps NO w w1 ∧ ∃ X S1 : CellSet, (∀ b o, X b o → b < w1.heap.size ∧ w.heap.size ≤ b) ∧
      (∀ b o, S1 b o → (sh = true ∧ S b o) ∨ (b < w1.heap.size ∧ w.heap.size ≤ b)) ∧ (∀ b o, X b o → ¬ S1 b o) ∧ HoldOk w1 NO k rcs.length v ∧ Row w1 S1 X rcs (topU w1 k v)
def argsA (F : Nat → AV) : List Operand → (Bool → List RA → Prop) → Prop
  | [], K => K true []
  | x :: xs, K => valA F (evA F x) fun ag cs => argsA F xs fun b A => bif noOwn cs then K b (.val ag cs :: A) else K false (.val ag (fzL cs) :: A)
/-- A call's answer. -/
inductive Cl (P : Program) (f : Nat) (b : Bool) (A : List RA) (K : AV → Prop) : Prop
  | mk_ (h : ∃ sh k rcs, CallsA P f sh A k rcs ∧ (sh = false ∨ b = true) ∧ K (.hold k rcs))
theorem Cl.mk {P : Program} {f : Nat} {b : Bool} {A : List RA} {K : AV → Prop} {k : Kd} {rcs : List C} (h : CallsA P f false A k rcs) (hK : K (.hold k rcs)) : Cl P f b A K := by refine .mk_ ?_; exact ⟨false, k, rcs, h, .inl rfl, hK⟩
theorem Cl.sh {P : Program} {f : Nat} {b : Bool} {A : List RA} {K : AV → Prop} {k : Kd} {rcs : List C} (h : CallsA P f true A k rcs) (hb : b = true) (hK : K (.hold k rcs)) : Cl P f b A K := by refine .mk_ ?_; exact ⟨true, k, rcs, h, .inr hb, hK⟩
theorem Cl.out {P : Program} {f : Nat} {b : Bool} {A : List RA} {K : AV → Prop} (h : Cl P f b A K) : ∃ sh k rcs, CallsA P f sh A k rcs ∧ (sh = false ∨ b = true) ∧ K (.hold k rcs) := by obtain ⟨h⟩ := h; exact h
def aCall (P : Program) (F : Nat → AV) (f : Nat) (args : List Operand) (K : AV → Prop) : Prop :=
  argsA F args fun b A => Cl P f b A K

section
variable {P : Program} {w0 w w1 : World} {M S0 S : CellSet} {N : Lim} {φ : Nat → CellSet} {F : Nat → AV} {a : Act}

theorem ValOk.mono {S S' Y Y' : CellSet} {ag : Option Nat} {cs : List C} {v : Value} (h : ValOk w S Y ag cs v) (hS : ∀ b o, S b o → S' b o) (hY : ∀ b o, Y b o → Y' b o) : ValOk w S' Y' ag cs v :=
  ⟨h.1, h.2.choose, h.2.choose_spec.1, h.2.choose_spec.2.mono hS hY⟩
theorem ValOk.freeze {Y : CellSet} {ag : Option Nat} {cs : List C} {v : Value} (h : ValOk w S Y ag cs v) : ValOk w (fun b o => S b o ∨ Y b o) NO ag (fzL cs) v :=
  ⟨by rw [fzL_map, List.length_map]; exact h.1, h.2.choose, h.2.choose_spec.1, h.2.choose_spec.2.freeze⟩
/-- All that the frame owns, and all that nobody writes. -/
def SAll (S : CellSet) (φ : Nat → CellSet) : CellSet := fun b o => S b o ∨ ∃ t, φ t b o
theorem StX.args (h : StX w0 M S0 N S φ F a w) : ∀ {xs : List Operand} {K : Bool → List RA → Prop}, argsA F xs K → ∃ b A, K b A ∧ RAs w (SAll S φ) A (xs.map a.eval) ∧ (b = true → RAs w S A (xs.map a.eval))
  | [], K, hp => ⟨true, [], hp, trivial, fun _ => trivial⟩
  | x :: xs, K, hp => by
    obtain ⟨ag, cs, Y, hK, hv, hY⟩ := h.val (h.ev x) hp
    obtain ⟨b, A, hK, h1, h2⟩ := StX.args h hK
    have hY' : ∀ b o, Y b o → SAll S φ b o := fun b o hb => by
      rcases hY b o hb with hb | hb
      · cases x with
        | tmp t => exact .inr ⟨t, hb⟩
        | _ => exact hb.elim
      · exact .inr hb
    cases hn : noOwn cs with
    | true =>
      rw [hn] at hK
      exact ⟨b, _, hK, ⟨(hv.bare hn).mono (fun _ _ h => .inl h) (fun _ _ h => h), h1⟩, fun hb => ⟨hv.bare hn, h2 hb⟩⟩
    | false =>
      rw [hn] at hK
      exact ⟨false, _, hK, ⟨hv.freeze.mono (fun b o h => h.elim .inl (hY' b o)) (fun _ _ h => h), h1⟩, fun hb => by cases hb⟩
theorem call_run {o : Oper} {f : Nat} {args : Array Operand} {ts : Array TypeId} (ho : o.op = .call ⟨.value (.func f), args, ts⟩) (hf : Has P f) :
    (execOp a.eval o).run P w = .ok (.enter f (args.map a.eval)) w := by
  obtain ⟨fn, h1, h2, h3⟩ := hf
  have h2' : ¬ fn.name = "runtime.NumGoroutine" := by simpa using h2
  simp [execOp, ho, resolve, Act.eval, Deferred.ofValue, invoke, callFunc, h1, h2']
  intro e
  rw [e] at h3
  cases h3
theorem StX.call (h : StX w0 M S0 N S φ F a w) {o : Oper} {f : Nat} {args : Array Operand} {ts : Array TypeId} (ho : o.op = .call ⟨.value (.func f), args, ts⟩) {K : AV → Prop} (hp : aCall P F f args.toList K) :
    ∃ av, K av ∧ Yld P o a w (NewR w S F a av) := by
  obtain ⟨b, A, hcl, h1, h2⟩ := h.args hp
  obtain ⟨sh, k, rcs, hc, hsh, hK⟩ := hcl.out
  refine ⟨_, hK, ?_⟩
  have hsz : ∀ b o, SAll S φ b o → b < w.heap.size := fun b o hb => hb.elim (fun h' => (h.sup b o h').1) (fun ⟨t, h'⟩ => (h.ex t b o h').1)
  have hargs : (args.toList.map a.eval).toArray = args.map a.eval := by apply Array.ext'; rw [Array.toList_map]
  have hrun := call_run (a := a) (w := w) ho hc.1
  refine Yld.enter hrun ?_
  rw [← hargs]
  have fin : ∀ S2 : CellSet, (∀ b o, S2 b o → b < w.heap.size) → RAs w S2 A (args.toList.map a.eval) → (sh = true → ∀ b o, S2 b o → S b o) →
      Calls P f (args.toList.map a.eval).toArray w fun e w1 => ∃ v, e = .returned v ∧ NewR w S F a (.hold k rcs) v w1 := by
    intro S2 hS2 hA hle
    refine (hc.2 w S2 _ hS2 hA).mono fun e w1 ⟨v, he, hk, X, S1, hX, hS1, hd, hh, hr⟩ => ⟨v, he, hk, X, fun b o => S b o ∨ S1 b o, hX, fun _ _ h => .inl h, fun b o hb => ?_, fun b o hb hS => ?_, ?_⟩
    · rcases hb with hb | hb
      · exact .inl hb
      · rcases hS1 b o hb with ⟨h3, h4⟩ | h3
        · exact .inl (hle h3 b o h4)
        · exact .inr h3
    · rcases hS with hS | hS
      · have := (h.sup b o hS).1; have := (hX b o hb).2; omega
      · exact hd b o hb hS
    · refine ⟨NO, X, fun _ _ h => h.elim, fun _ _ h => h, fun _ _ h => h.elim, hh, hr.mono (fun _ _ h => .inr h) (fun _ _ h => h)⟩
  rcases hsh with rfl | hb
  · exact fin _ hsz h1 (fun h => by cases h)
  · exact fin S (fun b o hb => (h.sup b o hb).1) (h2 hb) (fun _ _ _ h => h)

/- a tuple's component -/
def shAt : List (Option Nat) → Nat → Option (Nat × Option Nat)
  | [], _ => none
  | ag :: _, 0 => some (0, ag)
  | ag :: sh, i + 1 => (shAt sh i).map fun p => (ag.getD 1 + p.1, p.2)
def aExtract (F : Nat → AV) (x : Operand) (i : Nat) (K : AV → Prop) : Prop :=
  match x with
  | .tmp t => match F t with
    | .hold (.tup sh) cs => match shAt sh i with
      | some (s, ag) => bif noOwn (takeA cs s (ag.getD 1)) then K (.hold (kdOf ag) (takeA cs s (ag.getD 1))) else K (.bor t s [] ag)
      | none => False
    | _ => False
  | _ => False
theorem shLen_cons (ag : Option Nat) (sh : List (Option Nat)) : shLen (ag :: sh) = ag.getD 1 + shLen sh := by cases ag <;> rfl
theorem TupOk_cons {ag : Option Nat} {sh : List (Option Nat)} {v : Value} {vs : List Value} (h : TupOk (ag :: sh) (v :: vs)) : v.cells.toList.length = ag.getD 1 ∧ (v = mkv ag fun j => v.cells.toList.getD j undef) ∧ TupOk sh vs := by
  cases ag with
  | none =>
    have h1 : v.cells = #[v] := h.1
    exact ⟨by rw [h1]; rfl, by rw [h1]; rfl, h.2⟩
  | some n =>
    obtain ⟨⟨arr, rfl, hs⟩, h2⟩ := h
    exact ⟨by simp [Value.cells, hs], by have := mkv_agg arr; rw [hs] at this; exact this, h2⟩
theorem tup_at : ∀ {sh : List (Option Nat)} {vs : List Value} {i s : Nat} {ag : Option Nat}, TupOk sh vs → shAt sh i = some (s, ag) →
    ∃ v, vs[i]? = some v ∧ s + ag.getD 1 ≤ shLen sh ∧ v = mkv ag fun j => (vs.flatMap fun v => v.cells.toList).getD (s + j) undef
  | [], _, i, s, ag, _, hs => by cases hs
  | ag0 :: sh, [], i, s, ag, h, _ => by cases ag0 <;> exact h.elim
  | ag0 :: sh, v0 :: vs, i, s, ag, h, hs => by
    obtain ⟨h1, h2, h3⟩ := TupOk_cons h
    cases i with
    | zero =>
      simp only [shAt, Option.some.injEq, Prod.mk.injEq] at hs
      obtain ⟨rfl, rfl⟩ := hs
      refine ⟨v0, rfl, by rw [shLen_cons]; omega, h2.trans (mkv_congr fun j hj => ?_)⟩
      simp only [List.flatMap_cons, Nat.zero_add, List.getD]
      rw [List.getElem?_append_left (by omega)]
    | succ i =>
      simp only [shAt] at hs
      cases hsh : shAt sh i with
      | none => rw [hsh] at hs; cases hs
      | some p =>
        rw [hsh] at hs
        simp only [Option.map_some, Option.some.injEq, Prod.mk.injEq] at hs
        obtain ⟨rfl, rfl⟩ := hs
        obtain ⟨v, e1, e2, e3⟩ := tup_at h3 (show shAt sh i = some (p.1, p.2) from hsh)
        refine ⟨v, by simpa using e1, by rw [shLen_cons]; omega, e3.trans (mkv_congr fun j _ => ?_)⟩
        simp only [List.flatMap_cons, List.getD]
        rw [List.getElem?_append_right (by omega)]
        congr 2
        omega
theorem StX.extract (h : StX w0 M S0 N S φ F a w) {x : Operand} {i : Nat} {K : AV → Prop} (hp : aExtract F x i K) :
    ∃ av v, K av ∧ (Instr.extract (a.eval x) i).run P w = .ok v w ∧ SlotV w S F (tvs a) NO av v := by
  cases x with
  | tmp t =>
    have hs := h.slot t
    show ∃ av v, K av ∧ (Instr.extract (tvs a t) i).run P w = .ok v w ∧ _
    simp only [aExtract] at hp
    cases hF : F t with
    | hold k cs =>
      rw [hF] at hp hs
      cases k with
      | tup sh =>
        simp only at hp
        obtain ⟨X1, Y, h1, h2, h3, ⟨vs, hv, hT, hL⟩, h5⟩ := hs
        cases hsh : shAt sh i with
        | none => rw [hsh] at hp; exact hp.elim
        | some p =>
          obtain ⟨s, ag⟩ := p
          rw [hsh] at hp
          simp only at hp
          obtain ⟨v, hvi, hle, hve⟩ := tup_at hT hsh
          have hrun : (Instr.extract (tvs a t) i).run P w = .ok v w := by
            have : vs[i]? = some v := by rw [← Array.getElem?_toList]; exact hvi
            simp [hv, Instr.extract, this]
          have hu : v = mkv ag fun j => topU w (.tup sh) (tvs a t) (s + j) := by rw [hve, hv]; rfl
          cases hn : noOwn (takeA cs s (ag.getD 1)) with
          | true =>
            rw [hn] at hp
            refine ⟨_, v, hp, hrun, ValOk.slot ⟨by simp [takeA]; omega, _, hu, ?_⟩⟩
            exact (h5.part s (ag.getD 1)).bare hn
          | false =>
            rw [hn] at hp
            exact ⟨_, v, hp, hrun, .tup sh, cs, cs, s, hF, rfl, by omega, hu⟩
      | _ => exact hp.elim
    | _ => rw [hF] at hp; exact hp.elim
  | _ => exact hp.elim

/-- A text, told in another way. -/
inductive Es (x : ByteArray) (K : ByteArray → Prop) : Prop
  | mk_ (h : ∃ z, x = z ∧ K z)
theorem Es.mk {x z : ByteArray} {K : ByteArray → Prop} (h : x = z) (hK : K z) : Es x K := by refine .mk_ ?_; exact ⟨z, h, hK⟩
theorem Es.out {x : ByteArray} {K : ByteArray → Prop} (h : Es x K) : ∃ z, x = z ∧ K z := by obtain ⟨h⟩ := h; exact h
/-- Operators on numbers, flags and texts. -/
def binT (TE : Nat → Option TI) (op : BinOp) (T : Nat) (vx vy : Value) (K : Value → Prop) : Prop :=
  match vx, vy with
  | .bool a, .bool b => (match TE T with
    | some ⟨_, _, _, .sc .bool⟩ => (match op with
      | .eql => K (.bool (a == b))
      | .neq => K (.bool (a != b))
      | _ => False)
    | _ => False)
  | .string a, .string b => (match op with
    | .eql => K (.bool (a.toList == b.toList))
    | .neq => K (.bool (!(a.toList == b.toList)))
    | .add => Cd (((a.size + b.size : Nat) : Int) ≤ 9223372036854775807) (Es (a ++ b) fun z => K (.string z))
    | _ => False)
  | vx, vy => binA op vx vy K
theorem binT_run {TE : Nat → Option TI} (hTE : ∀ t i, TE t = some i → TOk P t i) {op : BinOp} {T : Nat} {vx vy : Value} {K : Value → Prop} {x y : Operand} (hp : binT TE op T vx vy K) : ∃ v, K v ∧ v.oneCell' = true ∧ (do eqGuard op T x y vx vy; binOp op T vx vy : Sem Value).run P w = .ok v w := by
  unfold binT at hp
  split at hp
  · rename_i a b
    split at hp
    case h_2 => exact hp.elim
    rename_i hT
    have hu : P.underlying T = some .bool := (hTE _ _ hT).2.2.1
    have hg : (eqGuard op T x y (.bool a) (.bool b)).run P w = .ok () w := by
      unfold eqGuard; split <;> rfl
    rw [Sem.run_bind, hg]
    have he : (Op.equal T (.bool a) (.bool b)).run P w = .ok (a == b) w := by
      unfold Op.equal
      rw [show Op.maxDepth = (Op.maxDepth - 1) + 1 from rfl, Op.equalIn]
      rw [Sem.run_bind, run_underlying hu]
      rfl
    cases op <;> simp only at hp <;> try exact hp.elim
    case eql => exact ⟨_, hp, rfl, by simp only [Result.andThen_ok, binOp, Sem.run_bind, he, Sem.run_pure]⟩
    case neq => exact ⟨_, hp, rfl, by simp only [Result.andThen_ok, binOp, Sem.run_bind, he, Sem.run_pure]; rfl⟩
  · rename_i a b
    have hg : (eqGuard op T x y (.string a) (.string b)).run P w = .ok () w := by
      unfold eqGuard; split <;> rfl
    rw [Sem.run_bind, hg]
    cases op <;> simp only at hp <;> try exact hp.elim
    case eql => exact ⟨_, hp, rfl, by simp [binOp, Op.stringOp]⟩
    case neq => exact ⟨_, hp, rfl, by simp [binOp, Op.stringOp]⟩
    case add =>
      obtain ⟨h1, h2⟩ := hp.out
      obtain ⟨z, rfl, h2⟩ := h2.out
      refine ⟨_, h2, rfl, ?_⟩
      have : ¬ ((a.size + b.size : Nat) : Int) > IntKind.i64.max := by
        have : IntKind.i64.max = 9223372036854775807 := by decide
        omega
      simp only [Result.andThen_ok, binOp, Op.stringOp]
      rw [if_neg this]
      rfl
  · exact binA_run hp
/-- All operations that write only their own slot. -/
def aPure (P : Program) (TE : Nat → Option TI) (F : Nat → AV) (o : Op) (K : AV → Prop) : Prop :=
  match o with
  | .move x => aMove F x K
  | .assign x => aMove F x K
  | .nilCheck x => (match x with | .tmp t => (match F t with | .ref .. => aMove F x K | .iref .. => aMove F x K | .hold .box _ => aMove F x K | _ => False) | _ => False)
  | .load T x => aLoad TE F T x K
  | .fieldAddr T x f => aFieldAddr TE F T x f K
  | .indexAddr T x y => aIndexAddr TE F T x y K
  | .binOp op T x y _ => scA F x fun vx => scA F y fun vy => binT TE op T vx vy fun v => K (.hold .one [.v v])
  | .unOp op _ x => scA F x fun vx => unA op vx fun v => K (.hold .one [.v v])
  | .pick c x y => aPick F c x y K
  | .alloc T => aAlloc TE T K
  | .box _ x => aBox F x K
  | .extract x i => aExtract F x i K
  | .build T ps => aBuild TE F T ps.toList K
  | .buildSlice T n ps => aBuildS TE F T n ps.toList K
  | .makeSlice T x y => aMake TE F T x y K
  | .makeMap T r => aMakeMap TE T r K
  | .lookup T x y ok => aLook TE F T x y ok K
  | .slice T x lo hi mx => (match mx with | none => aSlice TE F T x lo hi K | some _ => False)
  | .field T x f => aField TE F T x f K
  | .convert T1 T2 x => aConv TE F T1 T2 x K
  | .call c => match c.callee with
    | .value (.func f) => aCall P F f c.args.toList K
    | .builtin .len => (match c.args.toList, c.argTypes.toList with | [x], [T] => aLen TE F T x K | _, _ => False)
    | .builtin .append => (match c.args.toList, c.argTypes.toList with | [x, y], [T, T2] => bif Nat.beq T T2 then aAppP TE F T x y K else False | _, _ => False)
    | .builtin .min => (match c.args.toList with | [x, y] => aMM false F x y K | _ => False)
    | .builtin .max => (match c.args.toList with | [x, y] => aMM true F x y K | _ => False)
    | _ => False
  | _ => False
theorem StX.pure_ (h : StX w0 M S0 N S φ F a w) {TE : Nat → Option TI} (hTE : ∀ t i, TE t = some i → TOk P t i) {o : Oper} {K : AV → Prop} (hp : aPure P TE F o.op K) : ∃ av, K av ∧ Yld P o a w (NewR w S F a av) := by
  cases ho : o.op with
  | move x => rw [ho] at hp; obtain ⟨av, hK, hs⟩ := h.move hp; exact ⟨av, hK, .same (by simp [execOp, ho]) hs⟩
  | assign x => rw [ho] at hp; obtain ⟨av, hK, hs⟩ := h.move hp; exact ⟨av, hK, .same (by simp [execOp, ho]) hs⟩
  | nilCheck x =>
    rw [ho] at hp
    cases x with
    | tmp t =>
      have hs0 := h.slot t
      simp only [aPure] at hp
      have hptr : aMove F (.tmp t) K ∧ ∃ ad, a.eval (.tmp t) = .pointer (some ad) := by
        show _ ∧ ∃ ad, tvs a t = _
        cases hF : F t with
        | hold k cs =>
          rw [hF] at hp hs0
          cases k with
          | box => obtain ⟨X1, Y, -, -, -, ⟨g, b, hv, -⟩, -⟩ := hs0; exact ⟨hp, _, hv⟩
          | _ => exact hp.elim
        | ref => rw [hF] at hp hs0; obtain ⟨k, cs, r, j, g, b, -, -, -, hv⟩ := hs0; exact ⟨hp, _, hv⟩
        | iref => rw [hF] at hp hs0; obtain ⟨g, b, u, hv, -⟩ := hs0; exact ⟨hp, _, hv⟩
        | _ => rw [hF] at hp; exact hp.elim
      obtain ⟨hm, ad, had⟩ := hptr
      obtain ⟨av, hK, hs⟩ := h.move hm
      exact ⟨av, hK, .same (v := a.eval (.tmp t)) (by simp [execOp, ho, had]) hs⟩
    | _ => exact hp.elim
  | load T x => rw [ho] at hp; obtain ⟨av, v, hK, hr, hs⟩ := h.load hTE hp; exact ⟨av, hK, .same (by simp [execOp, ho, hr]) hs⟩
  | fieldAddr T x f => rw [ho] at hp; obtain ⟨av, v, hK, hr, hs⟩ := h.fieldAddr hTE hp; exact ⟨av, hK, .same (by simp [execOp, ho, hr]) hs⟩
  | indexAddr T x y => rw [ho] at hp; obtain ⟨av, v, hK, hr, hs⟩ := h.indexAddr hTE hp; exact ⟨av, hK, .same (by simp [execOp, ho, hr]) hs⟩
  | binOp op T x y yT =>
    rw [ho] at hp
    obtain ⟨hx, -⟩ := h.scalar hp
    obtain ⟨hy, -⟩ := h.scalar hx
    obtain ⟨v, hK, h1, hr⟩ := binT_run (P := P) (w := w) hTE (T := T) (x := x) (y := y) hy
    refine ⟨_, hK, .same (v := v) ?_ (sc_slot h1)⟩
    simp only [execOp, ho]
    rw [Sem.run_bind, hr]
    rfl
  | unOp op T x =>
    rw [ho] at hp
    obtain ⟨hx, -⟩ := h.scalar hp
    obtain ⟨v, hK, h1, hr⟩ := unA_run (P := P) (w := w) hx
    exact ⟨_, hK, .same (v := v) (by simp [execOp, ho, hr]) (sc_slot h1)⟩
  | pick c x y =>
    rw [ho] at hp
    obtain ⟨av, b, hK, hb, hs⟩ := h.pick hp
    exact ⟨av, hK, .same (v := if b then a.eval x else a.eval y) (by simp [execOp, ho, hb, asBool]) hs⟩
  | alloc T => rw [ho] at hp; obtain ⟨av, v, w1, hK, hr, hs⟩ := h.alloc hTE hp; exact ⟨av, hK, .value (by simp [execOp, ho, hr]) hs⟩
  | box T x => rw [ho] at hp; obtain ⟨av, v, w1, hK, hr, hs⟩ := h.box (P := P) (T := T) hp; exact ⟨av, hK, .value (by simp [execOp, ho, hr]) hs⟩
  | extract x i => rw [ho] at hp; obtain ⟨av, v, hK, hr, hs⟩ := h.extract (P := P) hp; exact ⟨av, hK, .same (by simp [execOp, ho, hr]) hs⟩
  | build T ps => rw [ho] at hp; obtain ⟨av, v, hK, hr, hs⟩ := h.build hTE hp; exact ⟨av, hK, .same (by simp only [execOp, ho]; rw [Sem.run_bind, hr]; rfl) hs⟩
  | buildSlice T n ps => rw [ho] at hp; obtain ⟨av, v, w1, hK, hr, hs⟩ := h.buildS hTE hp; exact ⟨av, hK, .value (by simp only [execOp, ho]; rw [Sem.run_bind, hr]; rfl) hs⟩
  | makeMap T r => rw [ho] at hp; obtain ⟨av, v, w1, hK, hr, hs⟩ := h.makeMap hTE hp; exact ⟨av, hK, .value (by simp [execOp, ho, hr]) hs⟩
  | lookup T x y ok => rw [ho] at hp; obtain ⟨v, hK, h1, hr⟩ := h.look hTE hp; exact ⟨_, hK, .same (v := v) (by simp [execOp, ho, hr]) (sc_slot h1)⟩
  | makeSlice T x y => rw [ho] at hp; obtain ⟨av, v, w1, hK, hr, hs⟩ := h.make hTE hp; exact ⟨av, hK, .value (by simp [execOp, ho, hr]) hs⟩
  | slice T x lo hi mx =>
    rw [ho] at hp
    cases mx with
    | none => obtain ⟨av, v, hK, hr, hs⟩ := h.slice hTE hp; exact ⟨av, hK, .same (by simp only [execOp, ho]; rw [Sem.run_bind, Option.map_none, hr]; rfl) hs⟩
    | some _ => exact hp.elim
  | field T x f => rw [ho] at hp; obtain ⟨av, v, hK, hr, hs⟩ := h.field hTE hp; exact ⟨av, hK, .same (by simp [execOp, ho, hr]) hs⟩
  | convert T1 T2 x => rw [ho] at hp; obtain ⟨v, hK, h1, hr⟩ := h.conv hTE hp; exact ⟨_, hK, .same (v := v) (by simp [execOp, ho, hr]) (sc_slot h1)⟩
  | call c =>
    rw [ho] at hp
    obtain ⟨callee, args, ts⟩ := c
    simp only [aPure] at hp
    split at hp
    · exact h.call ho hp
    · split at hp
      · rename_i x T hx hT
        obtain ⟨v, hK, h1, hr⟩ := h.len (ty := o.type) hTE hp
        have e1 : args = #[x] := by apply Array.ext'; simpa using hx
        have e2 : ts = #[T] := by apply Array.ext'; simpa using hT
        subst e1 e2
        refine ⟨_, hK, .same (v := v) ?_ (sc_slot h1)⟩
        simp [execOp, ho, resolve, invoke, builtin, hr]
      · exact hp.elim
    · split at hp
      · rename_i x y T T2 hx hT
        cases hb : Nat.beq T T2 with
        | false => rw [hb] at hp; exact hp.elim
        | true =>
          rw [hb] at hp
          have := Nat.eq_of_beq_eq_true hb
          subst this
          obtain ⟨av, v, w1, hK, hr, hs⟩ := h.appP (ty := o.type) hTE hp
          have e1 : args = #[x, y] := by apply Array.ext'; simpa using hx
          have e2 : ts = #[T, T] := by apply Array.ext'; simpa using hT
          subst e1 e2
          exact ⟨av, hK, .value (by simp [execOp, ho, resolve, invoke, builtin, hr]) hs⟩
      · exact hp.elim
    · split at hp
      · rename_i x y hx
        obtain ⟨v, hK, h1, hr⟩ := h.mm (P := P) (ts := ts) (ty := o.type) hp
        have e1 : args = #[x, y] := by apply Array.ext'; simpa using hx
        subst e1
        refine ⟨_, hK, .same (v := v) ?_ (sc_slot h1)⟩
        simp only [Bool.false_eq_true, if_false] at hr
        simp [execOp, ho, resolve, invoke, builtin, hr]
      · exact hp.elim
    · split at hp
      · rename_i x y hx
        obtain ⟨v, hK, h1, hr⟩ := h.mm (P := P) (ts := ts) (ty := o.type) hp
        have e1 : args = #[x, y] := by apply Array.ext'; simpa using hx
        subst e1
        refine ⟨_, hK, .same (v := v) ?_ (sc_slot h1)⟩
        simp only [if_true] at hr
        simp [execOp, ho, resolve, invoke, builtin, hr]
      · exact hp.elim
    · exact hp.elim
  | _ => rw [ho] at hp; exact hp.elim
end
end Go.Proofs.YthinjmmlpgjhnaaGreat.Ab
