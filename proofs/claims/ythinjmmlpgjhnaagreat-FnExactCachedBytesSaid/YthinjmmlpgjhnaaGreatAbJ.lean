/- Data that lead only to memory of their own. No condition. -/
import Derived.Test.YthinjmmlpgjhnaaGreatAbX
namespace Go.Proofs.YthinjmmlpgjhnaaGreat.Ab
open Go.RowKit

/- a datum that leads only to memory of its own -/
mutual
def frC : C → Prop
  | .s o rows => (o ≠ .imm ∨ rows = []) ∧ frR rows
  | .v _ => True
  | .x => True
  | .z => True
  | .m _ => True
def frR : List (List C) → Prop
  | [] => True
  | r :: rs => frL r ∧ frR rs
def frL : List C → Prop
  | [] => True
  | c :: cs => frC c ∧ frL cs
end
theorem frL_get : ∀ {cs : List C} {j : Nat} {c : C}, frL cs → cs[j]? = some c → frC c
  | [], j, c, _, h => by simp at h
  | c0 :: cs, j, c, h, hj => by
    simp only [frL] at h
    cases j with
    | zero => simp at hj; subst hj; exact h.1
    | succ j => exact frL_get h.2 (by simpa using hj)
theorem frR_get : ∀ {rs : List (List C)} {j : Nat} {r : List C}, frR rs → rs[j]? = some r → frL r
  | [], j, c, _, h => by simp at h
  | c0 :: cs, j, c, h, hj => by
    simp only [frR] at h
    cases j with
    | zero => simp at hj; subst hj; exact h.1
    | succ j => exact frR_get h.2 (by simpa using hj)
theorem frL_append {a b : List C} (ha : frL a) (hb : frL b) : frL (a ++ b) := by
  induction a with
  | nil => exact hb
  | cons c cs ih => simp only [frL] at ha; exact ⟨ha.1, ih ha.2⟩
theorem frR_map {α : Type} (f : α → List C) (l : List α) (h : ∀ x ∈ l, frL (f x)) : frR (l.map f) := by
  induction l with
  | nil => simp [frR]
  | cons a l ih => simp only [List.map_cons, frR]; exact ⟨h a (by simp), ih fun x hx => h x (by simp [hx])⟩
theorem Rep.fresh {w : World} {S F : CellSet} {c : C} {v : Value} (h : Rep w S F c v) : frC c → Rep w NO F c v := by
  induction h with
  | v F x h1 => exact fun _ => .v _ x h1
  | x F u h1 => exact fun _ => .x _ u h1
  | z F a => exact fun _ => .z _ a
  | nil F o a ho => exact fun _ => .nil _ o a ho
  | imm F g off k n cap rows u hn hk hcap hS hc ih =>
    intro hf
    simp only [frC] at hf
    rcases hf.1 with h | rfl
    · exact absurd rfl h
    · subst hn
      exact .imm _ g off k 0 cap [] u rfl hk (Nat.zero_le _) (fun q hq => by simp at hq) (fun i j r c hi => by simp at hi)
  | own F o g k n cap rows u f ho hn hk hcap hpos hF hu hf hd hc ih =>
    intro hfr
    simp only [frC] at hfr
    exact .own _ o g k n cap rows u f ho hn hk hcap hpos hF hu hf hd fun i j r c hi hj => ih i j r c hi hj (frL_get (frR_get hfr.2 hi) hj)
  | m F b clock es ents hF hb he hv => exact fun _ => .m _ b clock es ents hF hb he hv
theorem Row.fresh {w : World} {S F : CellSet} {cs : List C} {u : Nat → Value} (h : Row w S F cs u) (hf : frL cs) : Row w NO F cs u := by
  obtain ⟨f, h1, h2, h3⟩ := h
  exact ⟨f, fun j c hj => (h1 j c hj).fresh (frL_get hf hj), h2, h3⟩
end Go.Proofs.YthinjmmlpgjhnaaGreat.Ab
