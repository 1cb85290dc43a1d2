/- Words for contracts: numbers, flags and texts as cells; rows that are written one by one; contracts by less or by frozen cells. No condition. -/
import Derived.Test.YthinjmmlpgjhnaaGreatAbTE
import Derived.Test.YthinjmmlpgjhnaaGreatAbEM
namespace Go.Proofs.YthinjmmlpgjhnaaGreat.Ab
open Go.RowKit
abbrev I (z : Int) : C := .v (.int .i64 z)
abbrev B (b : Bool) : C := .v (.bool b)
def rI (_ : Own) (z : Int) : List C := [I z]
def rB (_ : Own) (b : Bool) : List C := [B b]
theorem rI_fr (z : Int) : frL (rI .own z) := ⟨trivial, trivial⟩
theorem rB_fr (b : Bool) : frL (rB .own b) := ⟨trivial, trivial⟩
def wfI (z : Int) : Prop := -9223372036854775808 ≤ z ∧ z ≤ 9223372036854775807
def wfB (_ : Bool) : Prop := True
/-- What is left of a bulk. -/
def szR (s : Nat) (left : Int) : Int := if (s : Int) ≤ left then left - s else -1
theorem follows_ok : Tryz.prog.follows .mixedOrders = true := by kernel_rfl
theorem fnOk {n f : Nat} {mo : List (Nat × List Nat)} {fn : Func} {c : Code} {sh : Bool} {A : List RA} {k : Kd} {rcs : List C} (hf : Tryz.prog.funcs[f]? = some fn) (hn : (fn.name == "runtime.NumGoroutine") = false) (hb : fn.body = some c) {tb : List (Nat × Nat × List Nat)} (hc : codeOk (drawOk tb) c = true)
    (hN : A.length + (fn.ntmps - A.length) = n) (hsh : sh = true ∨ frL rcs) (hp : aw Tryz.prog TE ⟨n, [], mo⟩ (DD Tryz.prog TE ⟨n, [], mo⟩ tb) c (endA TE fn.results.toList k rcs) (lay (argL 0 A))) : CallsA Tryz.prog f sh A k rcs :=
  callsA_of TE_ok hf hn hb (drawOk_all TE_ok follows_ok ⟨n, [], mo⟩ tb) hc hN rfl hsh hp
theorem fnMOk {n f : Nat} {mo : List (Nat × List Nat)} {fn : Func} {c : Code} {sh : Bool} {A B : List MA} {k : Kd} {rcs : List C} (pl : List (Nat × Nat)) (hf : Tryz.prog.funcs[f]? = some fn) (hn : (fn.name == "runtime.NumGoroutine") = false) (hb : fn.body = some c) {tb : List (Nat × Nat × List Nat)} (hc : codeOk (drawOk tb) c = true)
    (hN : A.length + (fn.ntmps - A.length) = n) (hok : okSl (slM 0 A pl) = true) (hsh : sh = true ∨ frL rcs)
    (hp : ∀ (u : Nat → Nat → Value) (p : Nat → Value), aw Tryz.prog TE ⟨n, kpM p 0 A, mo⟩ (DD Tryz.prog TE ⟨n, kpM p 0 A, mo⟩ tb) c (endM TE fn.results.toList k rcs u A B pl) (lay (argM u 0 A))) : CallsM Tryz.prog f sh A B k rcs :=
  callsM_of pl TE_ok hf hn hb (fun N => drawOk_all TE_ok follows_ok N tb) hc hN hok hsh hp
theorem wrapI {x : Int} (h1 : -9223372036854775808 ≤ x) (h2 : x ≤ 9223372036854775807) : IntKind.i64.wrap x = x := IntWalk.i64_in x (by constructor <;> assumption)
/- the same data told in another way -/
def RasEq : List RA → List RA → Prop
  | [], [] => True
  | .val ag cs :: A, .val ag' cs' :: A' => (ag = ag' ∧ cs = cs') ∧ RasEq A A'
  | _, _ => False
theorem RasEq.eq : ∀ {A A' : List RA}, RasEq A A' → A = A'
  | [], [], _ => rfl
  | .val ag cs :: A, .val ag' cs' :: A', h => by obtain ⟨⟨rfl, rfl⟩, h⟩ := h; rw [RasEq.eq h]
  | [], _ :: _, h => h.elim
  | _ :: _, [], h => h.elim
theorem Cl.eq {P : Program} {f : Nat} {b : Bool} {A A' : List RA} {K : AV → Prop} {k : Kd} {rcs : List C} (h : CallsA P f false A' k rcs) (hA : RasEq A A') (hK : K (.hold k rcs)) : Cl P f b A K := by rw [hA.eq]; exact Cl.mk h hK
theorem mkB {n b : Nat} (h : n ≤ 1048576) (hb : b ≤ 1000) : n * b ≤ 140737488355328 := Nat.le_trans (Nat.mul_le_mul h hb) (by decide)
theorem Cl.sz {P : Program} {f : Nat} {b : Bool} {A : List RA} {K : AV → Prop} {s : Nat} {L : Int} (h : CallsA P f false A .one [I (szR s L)]) (h1 : L < s → K (.hold .one [I (-1)])) (h2 : (s : Int) ≤ L → K (.hold .one [I (L - s)])) : Cl P f b A K := by
  refine Cl.mk h ?_
  unfold szR
  by_cases hs : (s : Int) ≤ L
  · rw [if_pos hs]; exact h2 hs
  · rw [if_neg hs]; exact h1 (by omega)
theorem Bf.NB {a b : Bool} {X Y : Prop} (h1 : a ≠ b → X) (h2 : a = b → Y) : Bf (a != b) X Y := by
  refine Bf.P (fun h => h1 ?_) (fun h => h2 ?_)
  · simpa using h
  · simpa using h
theorem Rw.one {bs : List C} {off i k j : Nat} {K : List C → Nat → Prop} {o : Own} {rows : List (List C)} {r : List C} (h1 : bs[off]? = some (.s o rows)) (h2 : rows[i]? = some r) (h3 : r.length = k) (hK : K r j) : Rw bs off [(i, k, j)] K :=
  Rw.mk (r := r) (j := j) (by simp [rowAt, h1, h2, h3]) hK
theorem set_get {α : Type} {l : List α} {i : Nat} {r r' : α} (h : l[i]? = some r) : (l.set i r')[i]? = some r' := by
  rw [List.getElem?_set_self (List.getElem?_eq_some_iff.1 h).1]
/- rows that are written one by one -/
def mixR {α : Type} (A B : List α) (i : Nat) : List α := A.take i ++ B.drop i
section
variable {α : Type} {A B : List α}
theorem mix_zero : mixR A B 0 = B := by simp [mixR]
theorem mix_end (i : Nat) (h : A.length = B.length) (hi : i = B.length) : mixR A B i = A := by subst hi; simp [mixR, ← h]
theorem mix_len (h : A.length = B.length) (i : Nat) : (mixR A B i).length = B.length := by simp [mixR]; omega
theorem mix_get (h : A.length = B.length) (i : Nat) (hi : i ≤ B.length) : (mixR A B i)[i]? = B[i]? := by
  unfold mixR
  rw [List.getElem?_append_right (by simp; omega), List.getElem?_drop]
  congr 1
  simp
  omega
theorem mix_set (h : A.length = B.length) {i : Nat} {a : α} (ha : A[i]? = some a) : (mixR A B i).set i a = mixR A B (i + 1) := by
  have hi := (List.getElem?_eq_some_iff.1 ha).1
  unfold mixR
  rw [List.set_append_right _ _ (by simp; omega)]
  have h1 : i - (A.take i).length = 0 := by simp; omega
  rw [h1, List.take_add_one, ha, List.append_assoc, List.drop_eq_getElem_cons (show i < B.length by omega)]
  rfl
end
theorem get_map {α β : Type} {f : α → β} {l : List α} {k : Nat} {x : α} (h : l[k]? = some x) : (l.map f)[k]? = some (f x) := by simp [h]
theorem get_rep {α : Type} {z : α} {n k : Nat} (h : k < n) : (List.replicate n z)[k]? = some z := by simp [h]
end Go.Proofs.YthinjmmlpgjhnaaGreat.Ab
