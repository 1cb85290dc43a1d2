/- spec.l36Plain: an act with the fields of its kind alone, its word and its arguments. -/
import Derived.Test.YtebiefhfhjgmaaaDoorFmtI
namespace Go.Proofs.YtebiefhfhjgmaaaDoor.Pl
set_option maxRecDepth 100000
open Go.RowKit Mm Ac AcM AcW Fp

/-- The act z with the fields of kind k alone. -/
def xz (z : List Int) (k : Nat) : List Int := [(k : Int), if 1 ∈ idx k then gI z 1 else 0, if 2 ∈ idx k then gI z 2 else 0, if 3 ∈ idx k then gI z 3 else 0, if 4 ∈ idx k then gI z 4 else 0]
def PRet (z : List Int) (k : Nat) (w : World) (e : Ending) (w' : World) : Prop :=
  ∃ A c, e = .returned (.tuple #[Agg (xz z k), .string (word k), .slice A (idx k).length c]) ∧ w'.ownsRow w.heap.size 3 1 (.slice A (idx k).length c) (idx k).length (((idx k).map (gI z)).map I) ∧ Below w.heap.size w w'
theorem results_cell_tmp_tmp {fn : Func} {p u v : Tmp} {ty : TypeId} (h : fn.results = #[.cell p ty, .tmp u, .tmp v]) (tmps : Array Value) (P : Program) (w : World) :
    (results fn tmps).run P w =
      ((asAddr (tmps.getD p undef)).run P w).andThen fun a w₁ => ((loadVar ty a).run P w₁).andThen fun x w₂ => .ok (.tuple #[x, tmps.getD u undef, tmps.getD v undef]) w₂ := by
  simp only [results, h]
  simp [Sem.run_bind, Result.andThen]
theorem ret_act3 {fn : Func} {p u v : Tmp} (h : fn.results = #[.cell p 44, .tmp u, .tmp v]) {tmps : Array Value} {w : World} {g : Nat} {x0 x1 x2 x3 x4 : Int} (hp : tmps.getD p undef = .pointer (some ⟨g, 0, none⟩)) (hb : Blk w g 44 #[I x0, I x1, I x2, I x3, I x4]) :
    (results fn tmps).run Tryd.prog w = .ok (.tuple #[.agg #[I x0, I x1, I x2, I x3, I x4], tmps.getD u undef, tmps.getD v undef]) w := by
  rw [results_cell_tmp_tmp h, hp]
  simp [asAddr, load_act w g x0 x1 x2 x3 x4 hb]

theorem blk_new' {W : World} {g : Nat} {t : TypeId} {cs : Array Value} (hg : g = W.heap.size) : Blk (W.alloc (.cells cs t)) g t cs := by subst hg; exact Blk.new W t cs
theorem own_new' {W : World} {base g : Nat} {cs : Array Value} {e : TypeId} {n : Nat} (hg : g = W.heap.size) (hb : base ≤ g) (h : cs.size = n) (hm : n ≤ maxLen) : (W.alloc (.cells cs e)).ownsRow base e 1 (.slice (some ⟨g, 0, none⟩) n n) n cs.toList := by
  subst hg
  exact own_mono (own_new W cs e n h hm) hb
theorem own_drew {w : World} {base n size : Nat} {e : TypeId} {v : Value} {xs : List Value} (h : w.ownsRow base e size v n xs) : w.drew.ownsRow base e size v n xs := h

theorem own_alloc' {w : World} {base n size : Nat} {e : TypeId} {v : Value} {xs : List Value} (o : Obj) (h : w.ownsRow base e size v n xs) : (w.alloc o).ownsRow base e size v n xs := h.alloc o
theorem blk_alloc' {w : World} {g : Nat} {t : TypeId} {cs : Array Value} (o : Obj) (h : Blk w g t cs) : Blk (w.alloc o) g t cs := h.alloc o
end Go.Proofs.YtebiefhfhjgmaaaDoor.Pl
