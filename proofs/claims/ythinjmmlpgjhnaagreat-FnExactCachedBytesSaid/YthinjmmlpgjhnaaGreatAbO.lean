/- The operations that write only their own slot, on abstract frames: what each yields; and that the model's own operation yields a value that fits. No condition. -/
import Derived.Test.YthinjmmlpgjhnaaGreatAbS
import Derived.WalkKit
import Derived.Handy
namespace Go.Proofs.YthinjmmlpgjhnaaGreat.Ab
open Go.RowKit

/-- What is known of a type. -/
inductive TK where
  | st (flds : List (Nat × Nat))
  | sl (elem : Nat)
  | sc (d : TypeDesc)
  | mp (key elem : Nat) (z : Value)
structure TI where
  size : Nat
  bytes : Nat
  zero : List C
  kind : TK
instance : Inhabited TI := ⟨⟨0, 0, [], .st []⟩⟩
def TI.agg (i : TI) : Bool := match i.kind with | .st _ => true | _ => false
def cval : C → Value
  | .v x => x
  | .z => .slice none 0 0
  | _ => undef
def zeroOk : List C → Prop
  | [] => True
  | .v x :: cs => x.oneCell' = true ∧ zeroOk cs
  | .z :: cs => zeroOk cs
  | _ => False
def TOk (P : Program) (t : Nat) (i : TI) : Prop :=
  (P.info? t).map (fun x => (x.zero.map (·.cells.toList), x.size, x.bytes)) = some (some (i.zero.map cval), i.size, i.bytes) ∧ zeroOk i.zero ∧
  match i.kind with
  | .st flds => ∃ fs, P.underlying t = some (.struct fs) ∧ fs.toList.map (fun f => (f.offset, f.type)) = flds
  | .sl e => P.underlying t = some (.slice e)
  | .sc d => P.underlying t = some d ∧ (match d with | .struct _ | .array _ _ => False | _ => True)
  | .mp k e z => P.underlying t = some (.map k e) ∧ P.underlying k = some (.int .i64) ∧ (P.info? e).bind (·.zero) = some z ∧ z.oneCell' = true

def isOwn : C → Bool
  | .s .own _ => true
  | .s (.tag _) _ => true
  | .m _ => true
  | _ => false
def noOwn : List C → Bool
  | [] => true
  | c :: cs => bif isOwn c then false else noOwn cs
def takeA (cs : List C) (off n : Nat) : List C := (cs.drop off).take n

def constC : Value → C
  | .slice none 0 0 => .z
  | v => .v v
def constA : Value → AV
  | .agg arr => bif arr.all (·.oneCell') then .hold .agg (arr.toList.map constC) else .dead
  | .tuple _ => .dead
  | .pointer (some _) => .dead
  | v => .hold .one [constC v]
def evA (F : Nat → AV) : Operand → AV
  | .tmp t => F t
  | .const v => constA v
  | .global _ => .dead
  | .func f => .fn f []
/- The questions that an abstract run asks, each behind a name that computing does not open. -/
/-- The row at a place. -/
inductive Rw (cs : List C) (off : Nat) (st : Steps) (K : List C → Nat → Prop) : Prop
  | mk_ (h : ∃ r j, rowAt cs off st = some (r, j) ∧ K r j)
theorem Rw.mk {cs : List C} {off : Nat} {st : Steps} {K : List C → Nat → Prop} {r : List C} {j : Nat} (h : rowAt cs off st = some (r, j)) (hK : K r j) : Rw cs off st K := by refine .mk_ ?_; exact ⟨r, j, h, hK⟩
theorem Rw.out {cs : List C} {off : Nat} {st : Steps} {K : List C → Nat → Prop} (h : Rw cs off st K) : ∃ r j, rowAt cs off st = some (r, j) ∧ K r j := by obtain ⟨h⟩ := h; exact h
/-- A number brought into its kind. -/
inductive Wr (k : IntKind) (x : Int) (K : Int → Prop) : Prop
  | mk_ (h : ∃ z, k.wrap x = z ∧ K z)
theorem Wr.mk {k : IntKind} {x z : Int} {K : Int → Prop} (h : k.wrap x = z) (hK : K z) : Wr k x K := by refine .mk_ ?_; exact ⟨z, h, hK⟩
theorem Wr.out {k : IntKind} {x : Int} {K : Int → Prop} (h : Wr k x K) : ∃ z, k.wrap x = z ∧ K z := by obtain ⟨h⟩ := h; exact h
/-- A number, told in another way. -/
inductive Ev (x : Int) (K : Int → Prop) : Prop
  | mk_ (h : ∃ z, x = z ∧ K z)
theorem Ev.mk {x z : Int} {K : Int → Prop} (h : x = z) (hK : K z) : Ev x K := by refine .mk_ ?_; exact ⟨z, h, hK⟩
theorem Ev.out {x : Int} {K : Int → Prop} (h : Ev x K) : ∃ z, x = z ∧ K z := by obtain ⟨h⟩ := h; exact h
/-- A length, told in another way. -/
inductive Ln (x : Nat) (K : Nat → Prop) : Prop
  | mk_ (h : ∃ z, x = z ∧ K z)
theorem Ln.mk {x z : Nat} {K : Nat → Prop} (h : x = z) (hK : K z) : Ln x K := by refine .mk_ ?_; exact ⟨z, h, hK⟩
theorem Ln.out {x : Nat} {K : Nat → Prop} (h : Ln x K) : K x := by obtain ⟨h⟩ := h; obtain ⟨z, rfl, h⟩ := h; exact h
/-- A condition. -/
inductive Cd (p : Prop) (X : Prop) : Prop
  | mk_ (h : p ∧ X)
theorem Cd.mk {p X : Prop} (h : p) (hX : X) : Cd p X := by refine .mk_ ?_; exact ⟨h, hX⟩
theorem Cd.out {p X : Prop} (h : Cd p X) : p ∧ X := by obtain ⟨h⟩ := h; exact h
/-- Element i of a slice. -/
inductive Ix (rows : List (List C)) (i : Int) (K : List C → Prop) : Prop
  | mk_ (h : 0 ≤ i ∧ ∃ r, rows[i.toNat]? = some r ∧ K r)
theorem Ix.mk {rows : List (List C)} {i : Int} {K : List C → Prop} {r : List C} (h0 : 0 ≤ i) (h : rows[i.toNat]? = some r) (hK : K r) : Ix rows i K := by refine .mk_ ?_; exact ⟨h0, r, h, hK⟩
theorem Ix.nat {rows : List (List C)} {i : Nat} {K : List C → Prop} {r : List C} (h : rows[i]? = some r) (hK : K r) : Ix rows (i : Int) K := Ix.mk (by omega) h hK
theorem Ix.out {rows : List (List C)} {i : Int} {K : List C → Prop} (h : Ix rows i K) : 0 ≤ i ∧ ∃ r, rows[i.toNat]? = some r ∧ K r := by obtain ⟨h⟩ := h; exact h
/-- A test. -/
inductive Bf (b : Bool) (X Y : Prop) : Prop
  | mk_ (h : bif b then X else Y)
theorem Bf.out {b : Bool} {X Y : Prop} (h : Bf b X Y) : bif b then X else Y := by obtain ⟨h⟩ := h; exact h
theorem Bf.in_ {b : Bool} {X Y : Prop} (h : bif b then X else Y) : Bf b X Y := by refine .mk_ ?_; exact h
theorem Bf.t {b : Bool} {X Y : Prop} (h : b = true) (hX : X) : Bf b X Y := by subst h; exact .in_ hX
theorem Bf.f {b : Bool} {X Y : Prop} (h : b = false) (hY : Y) : Bf b X Y := by subst h; exact .in_ hY
theorem Bf.P {b : Bool} {X Y : Prop} (h1 : b = true → X) (h2 : b = false → Y) : Bf b X Y := by cases b; exact .f rfl (h2 rfl); exact .t rfl (h1 rfl)
theorem Bf.D {p : Prop} [Decidable p] {X Y : Prop} (h1 : p → X) (h2 : ¬ p → Y) : Bf (decide p) X Y := .P (fun h => h1 (of_decide_eq_true h)) (fun h => h2 (of_decide_eq_false h))
theorem Bf.E {a b : Int} {X Y : Prop} (h1 : a = b → X) (h2 : a ≠ b → Y) : Bf (a == b) X Y := .P (fun h => h1 (by simpa using h)) (fun h => h2 (by simpa using h))
theorem Bf.N {a b : Int} {X Y : Prop} (h1 : a ≠ b → X) (h2 : a = b → Y) : Bf (a != b) X Y := .P (fun h => h1 (by simpa using h)) (fun h => h2 (by simpa using h))
theorem Bf.not {b : Bool} {X Y : Prop} (h : Bf b Y X) : Bf (!b) X Y := by cases b <;> exact .in_ h.out
/-- The row in which a place lies. -/
def rowA (F : Nat → AV) (t off : Nat) (st : Steps) (K : List C → Nat → Prop) : Prop :=
  match F t with
  | .hold _ cs => match st with
    | [] => K cs off
    | s :: st => Rw cs off (s :: st) K
  | _ => False
def valA (F : Nat → AV) : AV → (Option Nat → List C → Prop) → Prop
  | .hold .one cs, K => K none cs
  | .hold .agg cs, K => K (some cs.length) cs
  | .bor t off st ag, K => rowA F t off st fun r j => K ag (takeA r j (ag.getD 1))
  | _, _ => False

/-- The value v has the cells cs. -/
def ValOk (w : World) (S Y : CellSet) (ag : Option Nat) (cs : List C) (v : Value) : Prop :=
  cs.length = ag.getD 1 ∧ ∃ u, v = mkv ag u ∧ Row w S Y cs u

theorem rowA_spec {F : Nat → AV} {t off : Nat} {st : Steps} {K : List C → Nat → Prop} (h : rowA F t off st K) : ∃ k cs r j, F t = .hold k cs ∧ rowAt cs off st = some (r, j) ∧ K r j := by
  unfold rowA at h
  cases hF : F t with
  | hold k cs =>
    rw [hF] at h
    cases st with
    | nil => exact ⟨k, cs, cs, off, rfl, rfl, h⟩
    | cons s st => obtain ⟨r, j, e, h⟩ := Rw.out h; exact ⟨k, cs, r, j, rfl, e, h⟩
  | _ => rw [hF] at h; exact h.elim
theorem rowA_mono {F : Nat → AV} {t off : Nat} {st : Steps} {K K' : List C → Nat → Prop} (h : rowA F t off st K) (hk : ∀ r j, K r j → K' r j) : rowA F t off st K' := by
  obtain ⟨k, cs, r, j, hF, hr, hK⟩ := rowA_spec h
  unfold rowA
  rw [hF]
  cases st with
  | nil =>
    simp only [rowAt, Option.some.injEq, Prod.mk.injEq] at hr
    obtain ⟨rfl, rfl⟩ := hr
    exact hk _ _ hK
  | cons s st => exact Rw.mk hr (hk _ _ hK)
theorem mkv_agg (arr : Array Value) : Value.agg arr = mkv (some arr.size) (fun j => arr.toList.getD j undef) := by
  simp only [mkv]
  congr 1
  apply Array.ext'
  apply List.ext_getElem?
  intro j
  by_cases hj : j < arr.size
  · simp [hj, List.getD]
  · simp [hj]
theorem mkv_congr {ag : Option Nat} {u u' : Nat → Value} (h : ∀ j, j < ag.getD 1 → u j = u' j) : mkv ag u = mkv ag u' := by
  cases ag with
  | none => exact h 0 (by simp)
  | some n => simp only [mkv]; congr 2; exact List.map_congr_left fun j hj => h j (by simpa using List.mem_range.1 hj)

section
variable {P : Program} {w0 w w1 : World} {M S0 S : CellSet} {N : Lim} {φ : Nat → CellSet} {F : Nat → AV} {a : Act}

theorem constC_rep (S F : CellSet) {v : Value} (h : v.oneCell' = true) : Rep w S F (constC v) v := by
  unfold constC
  split
  · exact .z _ _
  · exact .v _ _ h
theorem constA_ok (v : Value) : SlotV w S F (tvs a) NO (constA v) v := by
  cases v with
  | agg arr =>
    cases hall : arr.all (·.oneCell') with
    | false =>
      have e : constA (.agg arr) = .dead := by simp only [constA, hall, cond_false]
      rw [e]; trivial
    | true =>
      have e : constA (.agg arr) = .hold .agg (arr.toList.map constC) := by simp only [constA, hall, cond_true]
      rw [e]
      refine ⟨NO, NO, fun _ _ h => h, fun _ _ h => h, fun _ _ _ h => h, ⟨arr, rfl, by simp⟩, fun _ => NO, fun j c hj => ?_, fun _ _ _ _ h => h, fun _ _ _ _ _ _ _ h => h.elim⟩
      rw [List.getElem?_map, Array.getElem?_toList] at hj
      cases hx : arr[j]? with
      | none => rw [hx] at hj; cases hj
      | some x =>
        rw [hx] at hj; simp only [Option.map_some, Option.some.injEq] at hj; subst hj
        have hone : x.oneCell' = true := by
          obtain ⟨hlt, he⟩ := Array.getElem?_eq_some_iff.1 hx
          have := Array.all_eq_true.1 hall j hlt
          rwa [he] at this
        have : topU w .agg (.agg arr) j = x := by simp [topU, Value.cells, List.getD, hx]
        rw [this]
        exact constC_rep _ _ hone
  | tuple _ => trivial
  | pointer p => cases p with
    | some _ => trivial
    | none => exact ⟨NO, NO, fun _ _ h => h, fun _ _ h => h, fun _ _ _ h => h, rfl, fun _ => NO, fun j c hj => by cases j with | zero => simp at hj; subst hj; exact constC_rep _ _ rfl | succ j => simp at hj, fun _ _ _ _ h => h, fun _ _ _ _ _ _ _ h => h.elim⟩
  | _ => exact ⟨NO, NO, fun _ _ h => h, fun _ _ h => h, fun _ _ _ h => h, rfl, fun _ => NO, fun j c hj => by cases j with | zero => simp at hj; subst hj; exact constC_rep _ _ rfl | succ j => simp at hj, fun _ _ _ _ h => h, fun _ _ _ _ _ _ _ h => h.elim⟩
def opX (φ : Nat → CellSet) : Operand → CellSet
  | .tmp t => φ t
  | _ => NO
theorem StX.ev (h : StX w0 M S0 N S φ F a w) (x : Operand) : SlotV w S F (tvs a) (opX φ x) (evA F x) (a.eval x) := by
  cases x with
  | tmp t => exact h.slot t
  | const v => exact constA_ok v
  | global g => trivial
  | func f => rfl
/-- A holder's row, read at a place. -/
theorem StX.place (h : StX w0 M S0 N S φ F a w) {t off : Nat} {st : Steps} {k : Kd} {cs r : List C} {j : Nat} (hF : F t = .hold k cs) (hr : rowAt cs off st = some (r, j)) :
    ∃ Y u, (∀ b o, Y b o → φ t b o) ∧ Row w S Y r u ∧ (∀ d, cellv w (topU w k (tvs a t)) off st d = u (j + d)) ∧
      (∀ g o, plc w (topU w k (tvs a t)) (topA k (tvs a t)) off st = some (g, o) → ∃ b, o = b + j ∧ ∀ d, d < r.length → cel w g (b + d) = some (u d)) := by
  have hs := h.slot t
  rw [hF] at hs
  obtain ⟨X1, Y, h1, h2, h3, h4, h5⟩ := hs
  obtain ⟨F', u', e1, e2, e3, e0, e4⟩ := Row.at_ st (topA k (tvs a t)) h5 hr
  refine ⟨F', u', fun b o hb => h2 b o (e1 b o hb), e2, e3, fun g o hp => ?_⟩
  by_cases hst : st = []
  · subst hst
    simp only [rowAt, Option.some.injEq, Prod.mk.injEq] at hr
    obtain ⟨rfl, rfl⟩ := hr
    rw [e0 rfl]
    cases k with
    | box =>
      obtain ⟨g', o', hv, hcell⟩ := h4
      rw [hv] at hp ⊢
      simp only [plc, topA, Option.map_some, Option.some.injEq, Prod.mk.injEq] at hp
      obtain ⟨rfl, rfl⟩ := hp
      refine ⟨o', rfl, fun d hd => ?_⟩
      obtain ⟨-, ⟨z, hz⟩, -⟩ := hcell d hd
      simp only [topU, hz, Option.getD_some]
    | _ => simp [plc, topA] at hp
  · obtain ⟨g', b, hp', hc⟩ := e4 hst
    rw [hp'] at hp
    simp only [Option.some.injEq, Prod.mk.injEq] at hp
    obtain ⟨rfl, rfl⟩ := hp
    exact ⟨b, rfl, hc⟩
theorem StX.val (h : StX w0 M S0 N S φ F a w) {av : AV} {v : Value} {X : CellSet} {K : Option Nat → List C → Prop} (hs : SlotV w S F (tvs a) X av v) (hp : valA F av K) :
    ∃ ag cs Y, K ag cs ∧ ValOk w S Y ag cs v ∧ ∀ b o, Y b o → X b o ∨ ∃ t, φ t b o := by
  cases av with
  | hold k cs =>
    obtain ⟨X1, Y, h1, h2, h3, h4, h5⟩ := hs
    cases k with
    | one => exact ⟨none, cs, Y, hp, ⟨h4, _, rfl, h5⟩, fun b o hb => .inl (h2 b o hb)⟩
    | agg =>
      obtain ⟨arr, rfl, hsz⟩ := h4
      exact ⟨some cs.length, cs, Y, hp, ⟨rfl, topU w .agg (.agg arr), by have := mkv_agg arr; rw [hsz] at this; exact this, h5⟩, fun b o hb => .inl (h2 b o hb)⟩
    | _ => exact hp.elim
  | bor t off st ag =>
    replace hp : rowA F t off st (fun r j => K ag (takeA r j (ag.getD 1))) := hp
    obtain ⟨k, cs, r, j, hF, hr, hK⟩ := rowA_spec hp
    obtain ⟨k', cs', r', j', hF', hr', hlen, hv⟩ := hs
    rw [hF] at hF'
    simp only [AV.hold.injEq] at hF'
    obtain ⟨rfl, rfl⟩ := hF'
    rw [hr] at hr'
    simp only [Option.some.injEq, Prod.mk.injEq] at hr'
    obtain ⟨rfl, rfl⟩ := hr'
    obtain ⟨Y, u, hY, hrow, hcv, -⟩ := h.place hF hr
    refine ⟨ag, _, Y, hK, ⟨by simp [takeA]; omega, fun d => u (j + d), ?_, hrow.part j _⟩, fun b o hb => .inr ⟨t, hY b o hb⟩⟩
    rw [hv]
    exact mkv_congr fun d _ => hcv d
  | _ => exact hp.elim
end
end Go.Proofs.YthinjmmlpgjhnaaGreat.Ab
