/- Operations that make memory or call, on abstract frames; all slot-only operations together. No condition. -/
import Derived.Test.YthinjmmlpgjhnaaGreatAbR
import Derived.Laws.MakeOwn
namespace Go.Proofs.YthinjmmlpgjhnaaGreat.Ab
open Go.RowKit

/- new variables -/
def aAlloc (TE : Nat → Option TI) (T : Nat) (K : AV → Prop) : Prop :=
  match TE T with
  | some i => K (.hold .box i.zero)
  | none => False
def aBox (F : Nat → AV) (x : Operand) (K : AV → Prop) : Prop :=
  valA F (evA F x) fun _ cs => bif noOwn cs then K (.hold .box cs) else False

section
variable {P : Program} {w0 w w1 : World} {M S0 S : CellSet} {N : Lim} {φ : Nat → CellSet} {F : Nat → AV} {a : Act}

theorem cel_alloc_new (w : World) (cells : Array Value) (e : TypeId) (j : Nat) : cel (w.alloc (.cells cells e)) w.heap.size j = cells[j]? :=
  cell_of_row (w.alloc (.cells cells e)) w.heap.size j cells e (0, 0) (heap_alloc_new w _)
theorem fro_alloc_new (w : World) (cells : Array Value) (e : TypeId) (j : Nat) : fro (w.alloc (.cells cells e)) w.heap.size j = NF := by
  have h := heap_alloc_new w (.cells cells e)
  refine Prod.ext ?_ (by show mp _ _ = none; unfold mp; rw [h])
  show World.frozen? _ _ = false
  simp only [World.frozen?, h]
  simp
theorem keeps_alloc (w : World) (o : Obj) : Keeps NO w (w.alloc o) := Keeps.of_below ((Below.refl _ _).alloc (Nat.le_refl _) o) NO
theorem size_alloc (w : World) (o : Obj) : (w.alloc o).heap.size = w.heap.size + 1 := by show (w.heap.push o).size = _; simp
theorem sameOn_old {X : CellSet} (hk : Keeps NO w w1) (hX : ∀ b o, X b o → b < w.heap.size) : SameOn X w w1 := fun b o hb => ⟨hk.cel b o (hX b o hb) (fun h => h), hk.fro b o (hX b o hb) (fun h => h)⟩
/-- A new block, boxed. -/
theorem StX.newBox (h : StX w0 M S0 N S φ F a w) {cells : Array Value} {e : TypeId} {cs : List C} {u : Nat → Value} (hl : cs.length = cells.size) (hu : ∀ j, j < cs.length → cells[j]? = some (u j)) (hr : Row w S NO cs u) :
    NewR w S F a (.hold .box cs) (.pointer (some ⟨w.heap.size, 0, none⟩)) (w.alloc (.cells cells e)) := by
  refine ⟨keeps_alloc w _, fun b o => b = w.heap.size ∧ o < cs.length, S, fun b o hb => ⟨by rw [size_alloc]; omega, by omega⟩, fun _ _ h => h, fun _ _ h => .inl h, fun b o hb hS => by have := (h.sup b o hS).1; omega, ?_⟩
  refine ⟨fun b o => b = w.heap.size ∧ o < cs.length, NO, fun _ _ h => h, fun _ _ h => h.elim, fun _ _ _ h => h, ⟨_, _, rfl, fun j hj => ⟨⟨rfl, by omega⟩, ?_, ?_⟩⟩, ?_⟩
  · rw [Nat.zero_add, cel_alloc_new]; exact ⟨_, hu j hj⟩
  · rw [Nat.zero_add, fro_alloc_new]
  · refine (hr.keep (sameOn_old (keeps_alloc w _) fun b o hb => (h.sup b o hb).1) (fun _ _ h => h.elim)).congr fun j hj => ?_
    simp only [topU, Nat.zero_add, cel_alloc_new, hu j hj, Option.getD_some]
theorem zero_bare : ∀ {cs : List C}, zeroOk cs → ∀ c ∈ cs, isOwn c = false
  | [], _, c, h => by simp at h
  | c0 :: cs, h, c, hc => by
    rcases List.mem_cons.1 hc with rfl | hm
    · cases c with | s o rows => exact h.elim | m es => exact h.elim | _ => rfl
    · exact zero_bare (cs := cs) (by cases c0 with | v x => exact h.2 | z => exact h | x => exact h.elim | s o rows => exact h.elim | m es => exact h.elim) c hm
theorem zero_row : ∀ {cs : List C}, zeroOk cs → ∀ (S : CellSet), Row w S NO cs (fun j => (cs.map cval).getD j undef)
  | [], _, S => Row.nil _ _ _ _
  | c :: cs, h, S => by
    refine ⟨fun _ => NO, fun j c' hj => ?_, fun _ _ _ _ h => h, fun _ _ _ _ _ _ _ h => h.elim⟩
    cases j with
    | zero =>
      simp only [List.getElem?_cons_zero, Option.some.injEq] at hj
      subst hj
      cases c with
      | v x => exact .v _ x h.1
      | z => exact .z _ none
      | x => exact h.elim
      | s o rows => exact h.elim
      | m es => exact h.elim
    | succ j =>
      have h' : zeroOk cs := by cases c with | v x => exact h.2 | z => exact h | x => exact h.elim | s o rows => exact h.elim | m es => exact h.elim
      obtain ⟨f, h1, -, -⟩ := zero_row (cs := cs) h' S
      have hc := h1 j c' (by simpa using hj)
      have hown : isOwn c' = false := zero_bare h' c' (List.mem_of_getElem? (i := j) (by simpa using hj))
      have := hc.bare (F' := NO) hown
      simpa using this
theorem TOk.zero {t : Nat} {i : TI} (h : TOk P t i) : ∃ z, (zeroValue t).run P w = .ok z w ∧ z.cells.toList = i.zero.map cval := by
  have := h.1
  cases hq : P.info? t with
  | none => rw [hq] at this; cases this
  | some q =>
    rw [hq] at this
    simp only [Option.map_some, Option.some.injEq, Prod.mk.injEq] at this
    cases hz : q.zero with
    | none => rw [hz] at this; cases this.1
    | some z => rw [hz] at this; exact ⟨z, by simp [zeroValue, typeInfo, hq, hz], by simpa using this.1⟩
theorem StX.alloc (h : StX w0 M S0 N S φ F a w) {TE : Nat → Option TI} (hTE : ∀ t i, TE t = some i → TOk P t i) {T : Nat} {K : AV → Prop} (hp : aAlloc TE T K) :
    ∃ av v w1, K av ∧ (Instr.alloc T true (.tuple #[])).run P w = .ok v w1 ∧ NewR w S F a av v w1 := by
  unfold aAlloc at hp
  split at hp
  case h_2 => exact hp.elim
  rename_i i hT
  have ht := hTE _ _ hT
  obtain ⟨z, hz, hzc⟩ := ht.zero (w := w)
  refine ⟨_, _, w.alloc (.cells z.cells T), hp, ?_, h.newBox (u := fun j => (i.zero.map cval).getD j undef) ?_ (fun j hj => ?_) (zero_row ht.2.1 S)⟩
  · simp [Instr.alloc, hz, newVar, newRow]
  · have := congrArg List.length hzc; simpa using this.symm
  · rw [← Array.getElem?_toList, hzc, List.getD, List.getElem?_eq_getElem (by simpa using hj)]; rfl
theorem mkv_cells {ag : Option Nat} {u : Nat → Value} (h1 : ag = none → (u 0).oneCell' = true) : (mkv ag u).cells.toList = (List.range (ag.getD 1)).map u := by
  cases ag with
  | none =>
    have := h1 rfl
    show (u 0).cells.toList = _
    cases hu : u 0 <;> first | (rw [hu] at this; cases this; done) | simp [Value.cells, hu, List.range_succ]
  | some n => simp [mkv, Value.cells]
theorem ValOk.cells {Y : CellSet} {ag : Option Nat} {cs : List C} {v : Value} (h : ValOk w S Y ag cs v) : ∃ u, v.cells.toList = (List.range cs.length).map u ∧ Row w S Y cs u := by
  obtain ⟨hl, u, rfl, hr⟩ := h
  refine ⟨u, ?_, hr⟩
  rw [mkv_cells (fun e => by subst e; exact hr.one (by simp at hl; omega)), hl]
theorem StX.box (h : StX w0 M S0 N S φ F a w) {T : Nat} {x : Operand} {K : AV → Prop} (hp : aBox F x K) :
    ∃ av v w1, K av ∧ (Instr.box T (a.eval x)).run P w = .ok v w1 ∧ NewR w S F a av v w1 := by
  obtain ⟨ag, cs, Y, hK, hv, -⟩ := h.val (h.ev x) hp
  cases hn : noOwn cs with
  | false => rw [hn] at hK; exact hK.elim
  | true =>
    rw [hn] at hK
    obtain ⟨u, hu, hr⟩ := hv.cells
    refine ⟨_, _, w.alloc (.cells (a.eval x).cells T), hK, by simp [Instr.box, newVar, newRow], h.newBox (u := u) ?_ (fun j hj => ?_) (hr.bare hn)⟩
    · have := congrArg List.length hu; simpa using this.symm
    · rw [← Array.getElem?_toList, hu]; simp [hj]

/- pick, not, len -/
def aPick (F : Nat → AV) (c x y : Operand) (K : AV → Prop) : Prop :=
  scA F c fun v => match v with | .bool b => Bf b (aMove F x K) (aMove F y K) | _ => False
theorem StX.pick (h : StX w0 M S0 N S φ F a w) {c x y : Operand} {K : AV → Prop} (hp : aPick F c x y K) :
    ∃ av b, K av ∧ a.eval c = .bool b ∧ SlotV w S F (tvs a) NO av (if b then a.eval x else a.eval y) := by
  obtain ⟨hc, -⟩ := h.scalar hp
  cases hv : a.eval c <;> rw [hv] at hc <;> try exact hc.elim
  rename_i b
  cases b with
  | true => obtain ⟨av, hK, hs⟩ := h.move (Bf.out hc); exact ⟨av, true, hK, rfl, hs⟩
  | false => obtain ⟨av, hK, hs⟩ := h.move (Bf.out hc); exact ⟨av, false, hK, rfl, hs⟩
def unA (op : UnOp) (x : Value) (K : Value → Prop) : Prop :=
  match op, x with
  | .not, .bool b => K (.bool !b)
  | .neg, .int k n => Wr k (0 - n) fun z => K (.int k z)
  | _, _ => False
theorem unA_run {op : UnOp} {x : Value} {K : Value → Prop} (hp : unA op x K) : ∃ v, K v ∧ v.oneCell' = true ∧ (Op.unary op x).run P w = .ok v w := by
  unfold unA at hp
  split at hp
  · exact ⟨_, hp, rfl, rfl⟩
  · obtain ⟨z, rfl, h⟩ := hp.out; exact ⟨_, h, rfl, rfl⟩
  · exact hp.elim
def aLen (TE : Nat → Option TI) (F : Nat → AV) (T : Nat) (x : Operand) (K : AV → Prop) : Prop :=
  match TE T with
  | some ⟨_, _, _, .sl _⟩ => valA F (evA F x) fun ag cs => match ag, cs with
    | none, [.s _ rows] => Ln rows.length fun n => K (.hold .one [.v (.int .i64 (n : Nat))])
    | none, [.z] => K (.hold .one [.v (.int .i64 0)])
    | _, _ => False
  | some ⟨_, _, _, .sc .string⟩ => scA F x fun v => match v with
    | .string s => Ln s.size fun n => K (.hold .one [.v (.int .i64 (n : Nat))])
    | _ => False
  | _ => False
theorem Rep.slice {F : CellSet} {o : Own} {rows : List (List C)} {v : Value} (h : Rep w S F (.s o rows) v) : ∃ b cap, v = .slice b rows.length cap := by
  generalize hc : C.s o rows = c at h
  cases h with
  | v => cases hc
  | x => cases hc
  | z => cases hc
  | m => cases hc
  | nil => cases hc; exact ⟨_, _, rfl⟩
  | own => cases hc; subst_vars; exact ⟨_, _, rfl⟩
  | imm => cases hc; subst_vars; exact ⟨_, _, rfl⟩
theorem StX.len (h : StX w0 M S0 N S φ F a w) {TE : Nat → Option TI} (hTE : ∀ t i, TE t = some i → TOk P t i) {T ty : Nat} {x : Operand} {K : AV → Prop} (hp : aLen TE F T x K) :
    ∃ v, K (.hold .one [.v v]) ∧ v.oneCell' = true ∧ (Builtin.len_ #[T] ty #[a.eval x]).run P w = .ok v w := by
  unfold aLen at hp
  split at hp
  · rename_i hT
    have hu := (hTE _ _ hT).2.2
    obtain ⟨ag, cs, Y, hK, ⟨hl, u, hv, f, h1, -⟩, -⟩ := h.val (h.ev x) hp
    match ag, cs, hK with
    | none, [.s o rows], hK =>
      obtain ⟨b, cap, hs⟩ := (h1 0 _ rfl).slice
      have : a.eval x = .slice b rows.length cap := hv.trans hs
      rw [this]
      exact ⟨_, Ln.out hK, rfl, by simp [Builtin.len_, run_underlying hu, goInt]⟩
    | none, [.z], hK =>
      have hr := h1 0 _ rfl
      have : ∃ b, u 0 = .slice b 0 0 := by
        generalize u 0 = y at hr
        cases hr; exact ⟨_, rfl⟩
      obtain ⟨b, hb⟩ := this
      have : a.eval x = .slice b 0 0 := hv.trans hb
      rw [this]
      exact ⟨_, hK, rfl, by simp [Builtin.len_, run_underlying hu, goInt]⟩
  · rename_i hT
    have hu := (hTE _ _ hT).2.2.1
    obtain ⟨hc, -⟩ := h.scalar hp
    cases hv : a.eval x <;> rw [hv] at hc <;> try exact hc.elim
    exact ⟨_, Ln.out hc, rfl, by simp [Builtin.len_, run_underlying hu, goInt]⟩
  · exact hp.elim
end
end Go.Proofs.YthinjmmlpgjhnaaGreat.Ab
