/- spec.l36Make: the act of a word and of its arguments. -/
import Derived.Test.YtebiefhfhjgmaaaDoorActW
import Derived.Test.YtebiefhfhjgmaaaDoorSInt
import Derived.Maps.AppendAt
import Derived.StillTailTactics
namespace Go.Proofs.YtebiefhfhjgmaaaDoor.AcM
set_option maxRecDepth 100000
open Go.RowKit Mm Ac

/-- The act of kind k with the arguments zs. -/
def actOf (k : Nat) (zs : List Int) : List Int :=
  match k with
  | 1 => [1, gI zs 0, gI zs 1, 0, 0]
  | 2 => [2, gI zs 0, gI zs 1, 0, 0]
  | 3 => [3, 0, gI zs 0, gI zs 1, gI zs 2]
  | 4 => [4, 0, gI zs 0, 0, gI zs 1]
  | 5 => [5, gI zs 0, 0, 0, 0]
  | 6 => [6, gI zs 0, 0, 0, 0]
  | 7 => [7, gI zs 0, 0, 0, 0]
  | 8 => [8, 0, gI zs 0, 0, 0]
  | 9 => [9, 0, 0, 0, 0]
  | 10 => [10, 0, gI zs 0, 0, 0]
  | _ => [0, 0, 0, 0, 0]
abbrev Agg (z : List Int) : Value := .agg #[I (gI z 0), I (gI z 1), I (gI z 2), I (gI z 3), I (gI z 4)]
def lenV : Value → Nat | .slice _ n _ => n | _ => 0
def pd (zs : List Int) (j : Nat) : List Int := zs ++ List.replicate (j - zs.length) 0
theorem pd_gI (zs : List Int) (j i : Nat) : gI (pd zs j) i = gI zs i := by
  unfold gI pd List.getD
  by_cases h : i < zs.length
  · rw [List.getElem?_append_left h]
  · rw [List.getElem?_append_right (by omega), List.getElem?_eq_none (l := zs) (by omega), List.getElem?_replicate]
    split <;> rfl
theorem pd_step (zs : List Int) (j : Nat) (h : zs.length ≤ j) : pd zs (j + 1) = pd zs j ++ [0] := by
  unfold pd
  rw [show j + 1 - zs.length = (j - zs.length) + 1 by omega, List.replicate_succ', List.append_assoc]
/-- What l36Make hands back: of the kind k. -/
def MkRet (k base : Nat) (zs : List Int) (w : World) (e : Ending) (w' : World) : Prop :=
  e = .returned (.tuple #[Agg (actOf k zs), .int .i64 ((idx k).length : Nat)]) ∧ Below base w w'
def MkNo (base : Nat) (w : World) (e : Ending) (w' : World) : Prop :=
  e = .returned (.tuple #[Agg [], .int .i64 (-1)]) ∧ Below base w w'
theorem own_cell {w : World} {base j c : Nat} {e : TypeId} {A : Option Addr} {zs : List Int} (h : w.ownsRow base e 1 (.slice A j c) j (zs.map I)) (hj : 0 < j) : ∃ g, A = some ⟨g, 0, none⟩ ∧ ∀ i, i < j → w.cell? ⟨g, i, none⟩ = some (I (gI zs i)) := by
  have hr := IRow.of_own h (Nat.le_refl _)
  rcases h.2 with ⟨_, h0⟩ | ⟨g, cap, cur, hv, _⟩
  · omega
  · injection hv with hA _ _
    subst hA
    refine ⟨g, rfl, fun i hi => ?_⟩
    have := hr.at1 hi
    rwa [Nat.zero_add] at this

theorem ne_word (f : ByteArray) (l : List UInt8) (h : f ≠ ⟨l.toArray⟩) : (f.toList == l) = false := by
  rw [beq_eq_false_iff_ne]
  intro e
  refine h (ByteArray.ext ?_)
  rw [← e, ByteArray.toList_eq]

/-- The box, loaded. -/
theorem Blk.drew {w : World} {g : Nat} {t : TypeId} {cs : Array Value} (h : Blk w g t cs) : Blk w.drew g t cs := h
theorem Blk.set5 {w : World} {g : Nat} {t : TypeId} {a b c d e : Value} (h : Blk w g t #[a, b, c, d, e]) (x0 x1 x2 x3 x4 : Value) :
    Blk (((((w.setCell ⟨g, 0, none⟩ x0).setCell ⟨g, 1, none⟩ x1).setCell ⟨g, 2, none⟩ x2).setCell ⟨g, 3, none⟩ x3).setCell ⟨g, 4, none⟩ x4) g t #[x0, x1, x2, x3, x4] :=
  ((((h.set_ 0 x0).set_ 1 x1).set_ 2 x2).set_ 3 x3).set_ 4 x4
theorem load_act (w : World) (g : Nat) (x0 x1 x2 x3 x4 : Int) (hb : Blk w g 44 #[I x0, I x1, I x2, I x3, I x4]) : (loadVar 44 ⟨g, 0, none⟩).run Tryd.prog w = .ok (.agg #[I x0, I x1, I x2, I x3, I x4]) w := by
  have b0 : w.cell? ⟨g, 0, none⟩ = some (I x0) := hb.cell 0
  have b1 : w.cell? ⟨g, 1, none⟩ = some (I x1) := hb.cell 1
  have b2 : w.cell? ⟨g, 2, none⟩ = some (I x2) := hb.cell 2
  have b3 : w.cell? ⟨g, 3, none⟩ = some (I x3) := hb.cell 3
  have b4 : w.cell? ⟨g, 4, none⟩ = some (I x4) := hb.cell 4
  simp [go_sem, b0, b1, b2, b3, b4]
theorem ret_act {fn : Func} {p u : Tmp} (h : fn.results = #[.cell p 44, .tmp u]) {tmps : Array Value} {w : World} {g : Nat} {x0 x1 x2 x3 x4 : Int} (hp : tmps.getD p undef = .pointer (some ⟨g, 0, none⟩)) (hb : Blk w g 44 #[I x0, I x1, I x2, I x3, I x4]) :
    (results fn tmps).run Tryd.prog w = .ok (.tuple #[.agg #[I x0, I x1, I x2, I x3, I x4], tmps.getD u undef]) w := by
  rw [results_cell_tmp h, hp]
  simp [asAddr, load_act w g x0 x1 x2 x3 x4 hb]

set_option maxHeartbeats 1000000 in
theorem make_no (f : ByteArray) (hf : ∀ k, 1 ≤ k → k ≤ 10 → f ≠ word k) (A : Option Addr) (m c base : Nat) (zs : List Int) (w : World) (h : w.ownsRow base 3 1 (.slice A m c) m (zs.map I)) (hbase : base ≤ w.heap.size) (hm : m ≤ 1000) :
    Calls Tryd.prog 90 #[.string f, .slice A m c] w (MkNo base w) := by
  have q1 : (f.toList == [97, 108, 108, 111, 99]) = false := ne_word f _ (hf 1 (by omega) (by omega))
  have q2 : (f.toList == [102, 114, 101, 101]) = false := ne_word f _ (hf 2 (by omega) (by omega))
  have q3 : (f.toList == [115, 116, 111, 114, 101]) = false := ne_word f _ (hf 3 (by omega) (by omega))
  have q4 : (f.toList == [116, 114, 105, 109]) = false := ne_word f _ (hf 4 (by omega) (by omega))
  have q5 : (f.toList == [100, 101, 108, 105, 118, 101, 114]) = false := ne_word f _ (hf 5 (by omega) (by omega))
  have q6 : (f.toList == [99, 111, 108, 108, 101, 99, 116]) = false := ne_word f _ (hf 6 (by omega) (by omega))
  have q7 : (f.toList == [102, 108, 117, 115, 104]) = false := ne_word f _ (hf 7 (by omega) (by omega))
  have q8 : (f.toList == [116, 105, 99, 107]) = false := ne_word f _ (hf 8 (by omega) (by omega))
  have q9 : (f.toList == [109, 101, 115, 104]) = false := ne_word f _ (hf 9 (by omega) (by omega))
  have q10 : (f.toList == [115, 116, 101, 112]) = false := ne_word f _ (hf 10 (by omega) (by omega))
  clear hf
  obtain ⟨i0, hi0, hz0, hz1, hz2⟩ := info_parts SInt.info_t
  have hzl : zs.length = m := by have := h.1; simpa using this
  have Hzl := Lib.hid hzl
  have H := Lib.hid h
  have hblk : ∀ q, (Value.slice A m c).ownBlock = some q → q ≠ w.heap.size := fun q hq => by have := (h.lt q hq).2; omega
  have Hblk := Lib.hid hblk
  clear h hzl hblk
  go_enter Tryd.func90, Tryd.ntmps90
  go_wp2
  go_loopw [1] (fun v wr => ∃ (A' : Option Addr) (j c' : Nat), v = .slice A' j c' ∧ m ≤ j ∧ j ≤ 1003 ∧ wr.ownsRow base 3 1 (.slice A' j c') j ((pd zs j).map I) ∧ (∀ q, (Value.slice A' j c').ownBlock = some q → q ≠ w.heap.size) ∧ Blk wr w.heap.size 44 #[I 0, I 0, I 0, I 0, I 0] ∧ Below base w wr) (fun v _ => 3 - lenV v)
  case atStart => exact ⟨A, m, c, rfl, by omega, by omega, by have e : pd zs m = zs := by { unfold pd; rw [Hzl.out]; simp }; rw [e]; exact H.out.alloc _, Hblk.out, Blk.new _ _ _, (Below.refl _ _).alloc hbase _⟩
  case round =>
    obtain ⟨A', j, c', rfl, hmj, hj, hown, hne, hbk, hbel⟩ := hrel
    have Hown := Lib.hid hown
    have Hne := Lib.hid hne
    have Hbk := Lib.hid hbk
    have Hbel := Lib.hid hbel
    have hsz := hbel.size
    clear hne
    by_cases hlt : j < 3
    · clear hown hbk hbel
      go_wp2_with (at_builtin; refine wpList_append_own_at _ rfl (.tmp 9) (.tmp 10) 66 rfl base 3 i0 (I 0) 1 8 Tryd.underlying66 hi0 hz0 hz1 hz2 rfl (by decide) _ _ _ rfl (Hown.out.alloc _) ⟨wr.heap.size, 0, none⟩ 1 1 [I 0] rfl rfl ?c1 ?c2 ?c3 ?c4 ?c5 ?_)
      case c1 => exact cells_new wr #[I 0] _
      case c2 => exact one_I [0]
      case c3 => unfold maxLen; omega
      case c4 => omega
      case c5 => first | omega | (simp; omega)
      intro v2 w2 hown2 hgr2 _ hat
      have hgw := Hbk.out.lt
      obtain ⟨A2, c2, rfl⟩ := own_form hown2
      have Hne2 : Hid (∀ q, (Value.slice A2 (j + 1) c2).ownBlock = some q → q ≠ w.heap.size) := by
        intro q hq
        rcases hat with e | e
        · rw [e] at hq; exact Hne.out q hq
        · rw [e] at hq; injection hq with hq; first | omega | (simp at hq; omega)
      have Hbk2 : Hid (Blk w2 w.heap.size 44 #[I 0, I 0, I 0, I 0, I 0]) := (hgr2.block _ (by first | omega | (simp; omega)) (fun e => Hne.out _ e.symm rfl)).trans (Hbk.out.alloc _)
      have Hown2 := Lib.hid hown2
      have Hbel2 := Lib.hid (Below.grown (Hbel.out.alloc (by omega) (.cells #[I 0] 3)) hgr2 (by first | omega | (simp; omega)) (fun q hq => (Hown.out.lt q hq).1))
      clear hown2 hgr2 hat
      go_wp2
      go_roundw
      case rel => exact ⟨A2, j + 1, c2, rfl, by omega, by omega, by rw [pd_step _ _ (by rw [Hzl.out]; omega), List.map_append]; exact Hown2.out, Hne2.out, Hbk2.out, Hbel2.out⟩
      case measure => simp [lenV]; omega
    · obtain ⟨g, rfl, hcell⟩ := own_cell hown (by omega)
      have b0 : wr.cell? ⟨w.heap.size, 0, none⟩ = some (I 0) := hbk.cell 0
      have f0 := hbk.frozen 0
      have b1 : wr.cell? ⟨w.heap.size, 1, none⟩ = some (I 0) := hbk.cell 1
      have f1 := hbk.frozen 1
      have b2 : wr.cell? ⟨w.heap.size, 2, none⟩ = some (I 0) := hbk.cell 2
      have f2 := hbk.frozen 2
      have b3 : wr.cell? ⟨w.heap.size, 3, none⟩ = some (I 0) := hbk.cell 3
      have f3 := hbk.frozen 3
      have b4 : wr.cell? ⟨w.heap.size, 4, none⟩ = some (I 0) := hbk.cell 4
      have f4 := hbk.frozen 4
      clear hcell hown hbk hbel
      go_wp2
      skip
      go_wp2
      refine bodyPost_ret (ret_act rfl (p := 4) (u := 5) (g := w.heap.size) (x0 := 0) (x1 := 0) (x2 := 0) (x3 := 0) (x4 := 0) rfl (Blk.set5 Hbk.out (I (0)) (I (0)) (I (0)) (I (0)) (I (0)))) rfl ⟨rfl, (((((Hbel.out.setCell hbase _).setCell hbase _).setCell hbase _).setCell hbase _).setCell hbase _)⟩
set_option maxHeartbeats 1000000 in
theorem make_1 (A : Option Addr) (m c base : Nat) (zs : List Int) (w : World) (h : w.ownsRow base 3 1 (.slice A m c) m (zs.map I)) (hbase : base ≤ w.heap.size) (hm : m ≤ 1000) :
    Calls Tryd.prog 90 #[.string (word 1), .slice A m c] w (MkRet 1 base zs w) := by
  have q1 : ((word 1).toList == [97, 108, 108, 111, 99]) = true := by rw [ByteArray.toList_eq]; decide
  obtain ⟨i0, hi0, hz0, hz1, hz2⟩ := info_parts SInt.info_t
  have hzl : zs.length = m := by have := h.1; simpa using this
  have Hzl := Lib.hid hzl
  have H := Lib.hid h
  have hblk : ∀ q, (Value.slice A m c).ownBlock = some q → q ≠ w.heap.size := fun q hq => by have := (h.lt q hq).2; omega
  have Hblk := Lib.hid hblk
  clear h hzl hblk
  go_enter Tryd.func90, Tryd.ntmps90
  go_wp2
  go_loopw [1] (fun v wr => ∃ (A' : Option Addr) (j c' : Nat), v = .slice A' j c' ∧ m ≤ j ∧ j ≤ 1003 ∧ wr.ownsRow base 3 1 (.slice A' j c') j ((pd zs j).map I) ∧ (∀ q, (Value.slice A' j c').ownBlock = some q → q ≠ w.heap.size) ∧ Blk wr w.heap.size 44 #[I 0, I 0, I 0, I 0, I 0] ∧ Below base w wr) (fun v _ => 3 - lenV v)
  case atStart => exact ⟨A, m, c, rfl, by omega, by omega, by have e : pd zs m = zs := by { unfold pd; rw [Hzl.out]; simp }; rw [e]; exact H.out.alloc _, Hblk.out, Blk.new _ _ _, (Below.refl _ _).alloc hbase _⟩
  case round =>
    obtain ⟨A', j, c', rfl, hmj, hj, hown, hne, hbk, hbel⟩ := hrel
    have Hown := Lib.hid hown
    have Hne := Lib.hid hne
    have Hbk := Lib.hid hbk
    have Hbel := Lib.hid hbel
    have hsz := hbel.size
    clear hne
    by_cases hlt : j < 3
    · clear hown hbk hbel
      go_wp2_with (at_builtin; refine wpList_append_own_at _ rfl (.tmp 9) (.tmp 10) 66 rfl base 3 i0 (I 0) 1 8 Tryd.underlying66 hi0 hz0 hz1 hz2 rfl (by decide) _ _ _ rfl (Hown.out.alloc _) ⟨wr.heap.size, 0, none⟩ 1 1 [I 0] rfl rfl ?c1 ?c2 ?c3 ?c4 ?c5 ?_)
      case c1 => exact cells_new wr #[I 0] _
      case c2 => exact one_I [0]
      case c3 => unfold maxLen; omega
      case c4 => omega
      case c5 => first | omega | (simp; omega)
      intro v2 w2 hown2 hgr2 _ hat
      have hgw := Hbk.out.lt
      obtain ⟨A2, c2, rfl⟩ := own_form hown2
      have Hne2 : Hid (∀ q, (Value.slice A2 (j + 1) c2).ownBlock = some q → q ≠ w.heap.size) := by
        intro q hq
        rcases hat with e | e
        · rw [e] at hq; exact Hne.out q hq
        · rw [e] at hq; injection hq with hq; first | omega | (simp at hq; omega)
      have Hbk2 : Hid (Blk w2 w.heap.size 44 #[I 0, I 0, I 0, I 0, I 0]) := (hgr2.block _ (by first | omega | (simp; omega)) (fun e => Hne.out _ e.symm rfl)).trans (Hbk.out.alloc _)
      have Hown2 := Lib.hid hown2
      have Hbel2 := Lib.hid (Below.grown (Hbel.out.alloc (by omega) (.cells #[I 0] 3)) hgr2 (by first | omega | (simp; omega)) (fun q hq => (Hown.out.lt q hq).1))
      clear hown2 hgr2 hat
      go_wp2
      go_roundw
      case rel => exact ⟨A2, j + 1, c2, rfl, by omega, by omega, by rw [pd_step _ _ (by rw [Hzl.out]; omega), List.map_append]; exact Hown2.out, Hne2.out, Hbk2.out, Hbel2.out⟩
      case measure => simp [lenV]; omega
    · obtain ⟨g, rfl, hcell⟩ := own_cell hown (by omega)
      have e0 := hcell 0 (by omega)
      rw [pd_gI] at e0
      have e1 := hcell 1 (by omega)
      rw [pd_gI] at e1
      have b0 : wr.cell? ⟨w.heap.size, 0, none⟩ = some (I 0) := hbk.cell 0
      have f0 := hbk.frozen 0
      have b1 : wr.cell? ⟨w.heap.size, 1, none⟩ = some (I 0) := hbk.cell 1
      have f1 := hbk.frozen 1
      have b2 : wr.cell? ⟨w.heap.size, 2, none⟩ = some (I 0) := hbk.cell 2
      have f2 := hbk.frozen 2
      have b3 : wr.cell? ⟨w.heap.size, 3, none⟩ = some (I 0) := hbk.cell 3
      have f3 := hbk.frozen 3
      have b4 : wr.cell? ⟨w.heap.size, 4, none⟩ = some (I 0) := hbk.cell 4
      have f4 := hbk.frozen 4
      have l0 : (0 : Int) < (j : Int) := by omega
      have l1 : (1 : Int) < (j : Int) := by omega
      clear hcell hown hbk hbel
      go_wp2
      go_region
      go_wp2
      refine bodyPost_ret (ret_act rfl (p := 4) (u := 5) (g := w.heap.size) (x0 := 1) (x1 := gI zs 0) (x2 := gI zs 1) (x3 := 0) (x4 := 0) rfl (Blk.drew (Blk.set5 Hbk.out (I (1)) (I (gI zs 0)) (I (gI zs 1)) (I (0)) (I (0))))) rfl ⟨rfl, (((((Hbel.out.setCell hbase _).setCell hbase _).setCell hbase _).setCell hbase _).setCell hbase _).drew⟩
set_option maxHeartbeats 1000000 in
theorem make_2 (A : Option Addr) (m c base : Nat) (zs : List Int) (w : World) (h : w.ownsRow base 3 1 (.slice A m c) m (zs.map I)) (hbase : base ≤ w.heap.size) (hm : m ≤ 1000) :
    Calls Tryd.prog 90 #[.string (word 2), .slice A m c] w (MkRet 2 base zs w) := by
  have q1 : ((word 2).toList == [97, 108, 108, 111, 99]) = false := by rw [ByteArray.toList_eq]; decide
  have q2 : ((word 2).toList == [102, 114, 101, 101]) = true := by rw [ByteArray.toList_eq]; decide
  obtain ⟨i0, hi0, hz0, hz1, hz2⟩ := info_parts SInt.info_t
  have hzl : zs.length = m := by have := h.1; simpa using this
  have Hzl := Lib.hid hzl
  have H := Lib.hid h
  have hblk : ∀ q, (Value.slice A m c).ownBlock = some q → q ≠ w.heap.size := fun q hq => by have := (h.lt q hq).2; omega
  have Hblk := Lib.hid hblk
  clear h hzl hblk
  go_enter Tryd.func90, Tryd.ntmps90
  go_wp2
  go_loopw [1] (fun v wr => ∃ (A' : Option Addr) (j c' : Nat), v = .slice A' j c' ∧ m ≤ j ∧ j ≤ 1003 ∧ wr.ownsRow base 3 1 (.slice A' j c') j ((pd zs j).map I) ∧ (∀ q, (Value.slice A' j c').ownBlock = some q → q ≠ w.heap.size) ∧ Blk wr w.heap.size 44 #[I 0, I 0, I 0, I 0, I 0] ∧ Below base w wr) (fun v _ => 3 - lenV v)
  case atStart => exact ⟨A, m, c, rfl, by omega, by omega, by have e : pd zs m = zs := by { unfold pd; rw [Hzl.out]; simp }; rw [e]; exact H.out.alloc _, Hblk.out, Blk.new _ _ _, (Below.refl _ _).alloc hbase _⟩
  case round =>
    obtain ⟨A', j, c', rfl, hmj, hj, hown, hne, hbk, hbel⟩ := hrel
    have Hown := Lib.hid hown
    have Hne := Lib.hid hne
    have Hbk := Lib.hid hbk
    have Hbel := Lib.hid hbel
    have hsz := hbel.size
    clear hne
    by_cases hlt : j < 3
    · clear hown hbk hbel
      go_wp2_with (at_builtin; refine wpList_append_own_at _ rfl (.tmp 9) (.tmp 10) 66 rfl base 3 i0 (I 0) 1 8 Tryd.underlying66 hi0 hz0 hz1 hz2 rfl (by decide) _ _ _ rfl (Hown.out.alloc _) ⟨wr.heap.size, 0, none⟩ 1 1 [I 0] rfl rfl ?c1 ?c2 ?c3 ?c4 ?c5 ?_)
      case c1 => exact cells_new wr #[I 0] _
      case c2 => exact one_I [0]
      case c3 => unfold maxLen; omega
      case c4 => omega
      case c5 => first | omega | (simp; omega)
      intro v2 w2 hown2 hgr2 _ hat
      have hgw := Hbk.out.lt
      obtain ⟨A2, c2, rfl⟩ := own_form hown2
      have Hne2 : Hid (∀ q, (Value.slice A2 (j + 1) c2).ownBlock = some q → q ≠ w.heap.size) := by
        intro q hq
        rcases hat with e | e
        · rw [e] at hq; exact Hne.out q hq
        · rw [e] at hq; injection hq with hq; first | omega | (simp at hq; omega)
      have Hbk2 : Hid (Blk w2 w.heap.size 44 #[I 0, I 0, I 0, I 0, I 0]) := (hgr2.block _ (by first | omega | (simp; omega)) (fun e => Hne.out _ e.symm rfl)).trans (Hbk.out.alloc _)
      have Hown2 := Lib.hid hown2
      have Hbel2 := Lib.hid (Below.grown (Hbel.out.alloc (by omega) (.cells #[I 0] 3)) hgr2 (by first | omega | (simp; omega)) (fun q hq => (Hown.out.lt q hq).1))
      clear hown2 hgr2 hat
      go_wp2
      go_roundw
      case rel => exact ⟨A2, j + 1, c2, rfl, by omega, by omega, by rw [pd_step _ _ (by rw [Hzl.out]; omega), List.map_append]; exact Hown2.out, Hne2.out, Hbk2.out, Hbel2.out⟩
      case measure => simp [lenV]; omega
    · obtain ⟨g, rfl, hcell⟩ := own_cell hown (by omega)
      have e0 := hcell 0 (by omega)
      rw [pd_gI] at e0
      have e1 := hcell 1 (by omega)
      rw [pd_gI] at e1
      have b0 : wr.cell? ⟨w.heap.size, 0, none⟩ = some (I 0) := hbk.cell 0
      have f0 := hbk.frozen 0
      have b1 : wr.cell? ⟨w.heap.size, 1, none⟩ = some (I 0) := hbk.cell 1
      have f1 := hbk.frozen 1
      have b2 : wr.cell? ⟨w.heap.size, 2, none⟩ = some (I 0) := hbk.cell 2
      have f2 := hbk.frozen 2
      have b3 : wr.cell? ⟨w.heap.size, 3, none⟩ = some (I 0) := hbk.cell 3
      have f3 := hbk.frozen 3
      have b4 : wr.cell? ⟨w.heap.size, 4, none⟩ = some (I 0) := hbk.cell 4
      have f4 := hbk.frozen 4
      have l0 : (0 : Int) < (j : Int) := by omega
      have l1 : (1 : Int) < (j : Int) := by omega
      clear hcell hown hbk hbel
      go_wp2
      go_region
      go_wp2
      refine bodyPost_ret (ret_act rfl (p := 4) (u := 5) (g := w.heap.size) (x0 := 2) (x1 := gI zs 0) (x2 := gI zs 1) (x3 := 0) (x4 := 0) rfl (Blk.drew (Blk.set5 Hbk.out (I (2)) (I (gI zs 0)) (I (gI zs 1)) (I (0)) (I (0))))) rfl ⟨rfl, (((((Hbel.out.setCell hbase _).setCell hbase _).setCell hbase _).setCell hbase _).setCell hbase _).drew⟩
set_option maxHeartbeats 1000000 in
theorem make_3 (A : Option Addr) (m c base : Nat) (zs : List Int) (w : World) (h : w.ownsRow base 3 1 (.slice A m c) m (zs.map I)) (hbase : base ≤ w.heap.size) (hm : m ≤ 1000) :
    Calls Tryd.prog 90 #[.string (word 3), .slice A m c] w (MkRet 3 base zs w) := by
  have q1 : ((word 3).toList == [97, 108, 108, 111, 99]) = false := by rw [ByteArray.toList_eq]; decide
  have q2 : ((word 3).toList == [102, 114, 101, 101]) = false := by rw [ByteArray.toList_eq]; decide
  have q3 : ((word 3).toList == [115, 116, 111, 114, 101]) = true := by rw [ByteArray.toList_eq]; decide
  obtain ⟨i0, hi0, hz0, hz1, hz2⟩ := info_parts SInt.info_t
  have hzl : zs.length = m := by have := h.1; simpa using this
  have Hzl := Lib.hid hzl
  have H := Lib.hid h
  have hblk : ∀ q, (Value.slice A m c).ownBlock = some q → q ≠ w.heap.size := fun q hq => by have := (h.lt q hq).2; omega
  have Hblk := Lib.hid hblk
  clear h hzl hblk
  go_enter Tryd.func90, Tryd.ntmps90
  go_wp2
  go_loopw [1] (fun v wr => ∃ (A' : Option Addr) (j c' : Nat), v = .slice A' j c' ∧ m ≤ j ∧ j ≤ 1003 ∧ wr.ownsRow base 3 1 (.slice A' j c') j ((pd zs j).map I) ∧ (∀ q, (Value.slice A' j c').ownBlock = some q → q ≠ w.heap.size) ∧ Blk wr w.heap.size 44 #[I 0, I 0, I 0, I 0, I 0] ∧ Below base w wr) (fun v _ => 3 - lenV v)
  case atStart => exact ⟨A, m, c, rfl, by omega, by omega, by have e : pd zs m = zs := by { unfold pd; rw [Hzl.out]; simp }; rw [e]; exact H.out.alloc _, Hblk.out, Blk.new _ _ _, (Below.refl _ _).alloc hbase _⟩
  case round =>
    obtain ⟨A', j, c', rfl, hmj, hj, hown, hne, hbk, hbel⟩ := hrel
    have Hown := Lib.hid hown
    have Hne := Lib.hid hne
    have Hbk := Lib.hid hbk
    have Hbel := Lib.hid hbel
    have hsz := hbel.size
    clear hne
    by_cases hlt : j < 3
    · clear hown hbk hbel
      go_wp2_with (at_builtin; refine wpList_append_own_at _ rfl (.tmp 9) (.tmp 10) 66 rfl base 3 i0 (I 0) 1 8 Tryd.underlying66 hi0 hz0 hz1 hz2 rfl (by decide) _ _ _ rfl (Hown.out.alloc _) ⟨wr.heap.size, 0, none⟩ 1 1 [I 0] rfl rfl ?c1 ?c2 ?c3 ?c4 ?c5 ?_)
      case c1 => exact cells_new wr #[I 0] _
      case c2 => exact one_I [0]
      case c3 => unfold maxLen; omega
      case c4 => omega
      case c5 => first | omega | (simp; omega)
      intro v2 w2 hown2 hgr2 _ hat
      have hgw := Hbk.out.lt
      obtain ⟨A2, c2, rfl⟩ := own_form hown2
      have Hne2 : Hid (∀ q, (Value.slice A2 (j + 1) c2).ownBlock = some q → q ≠ w.heap.size) := by
        intro q hq
        rcases hat with e | e
        · rw [e] at hq; exact Hne.out q hq
        · rw [e] at hq; injection hq with hq; first | omega | (simp at hq; omega)
      have Hbk2 : Hid (Blk w2 w.heap.size 44 #[I 0, I 0, I 0, I 0, I 0]) := (hgr2.block _ (by first | omega | (simp; omega)) (fun e => Hne.out _ e.symm rfl)).trans (Hbk.out.alloc _)
      have Hown2 := Lib.hid hown2
      have Hbel2 := Lib.hid (Below.grown (Hbel.out.alloc (by omega) (.cells #[I 0] 3)) hgr2 (by first | omega | (simp; omega)) (fun q hq => (Hown.out.lt q hq).1))
      clear hown2 hgr2 hat
      go_wp2
      go_roundw
      case rel => exact ⟨A2, j + 1, c2, rfl, by omega, by omega, by rw [pd_step _ _ (by rw [Hzl.out]; omega), List.map_append]; exact Hown2.out, Hne2.out, Hbk2.out, Hbel2.out⟩
      case measure => simp [lenV]; omega
    · obtain ⟨g, rfl, hcell⟩ := own_cell hown (by omega)
      have e0 := hcell 0 (by omega)
      rw [pd_gI] at e0
      have e1 := hcell 1 (by omega)
      rw [pd_gI] at e1
      have e2 := hcell 2 (by omega)
      rw [pd_gI] at e2
      have b0 : wr.cell? ⟨w.heap.size, 0, none⟩ = some (I 0) := hbk.cell 0
      have f0 := hbk.frozen 0
      have b1 : wr.cell? ⟨w.heap.size, 1, none⟩ = some (I 0) := hbk.cell 1
      have f1 := hbk.frozen 1
      have b2 : wr.cell? ⟨w.heap.size, 2, none⟩ = some (I 0) := hbk.cell 2
      have f2 := hbk.frozen 2
      have b3 : wr.cell? ⟨w.heap.size, 3, none⟩ = some (I 0) := hbk.cell 3
      have f3 := hbk.frozen 3
      have b4 : wr.cell? ⟨w.heap.size, 4, none⟩ = some (I 0) := hbk.cell 4
      have f4 := hbk.frozen 4
      have l0 : (0 : Int) < (j : Int) := by omega
      have l1 : (1 : Int) < (j : Int) := by omega
      have l2 : (2 : Int) < (j : Int) := by omega
      clear hcell hown hbk hbel
      go_wp2
      go_region
      go_wp2
      refine bodyPost_ret (ret_act rfl (p := 4) (u := 5) (g := w.heap.size) (x0 := 3) (x1 := 0) (x2 := gI zs 0) (x3 := gI zs 1) (x4 := gI zs 2) rfl (Blk.drew (Blk.set5 Hbk.out (I (3)) (I (0)) (I (gI zs 0)) (I (gI zs 1)) (I (gI zs 2))))) rfl ⟨rfl, (((((Hbel.out.setCell hbase _).setCell hbase _).setCell hbase _).setCell hbase _).setCell hbase _).drew⟩
set_option maxHeartbeats 1000000 in
theorem make_4 (A : Option Addr) (m c base : Nat) (zs : List Int) (w : World) (h : w.ownsRow base 3 1 (.slice A m c) m (zs.map I)) (hbase : base ≤ w.heap.size) (hm : m ≤ 1000) :
    Calls Tryd.prog 90 #[.string (word 4), .slice A m c] w (MkRet 4 base zs w) := by
  have q1 : ((word 4).toList == [97, 108, 108, 111, 99]) = false := by rw [ByteArray.toList_eq]; decide
  have q2 : ((word 4).toList == [102, 114, 101, 101]) = false := by rw [ByteArray.toList_eq]; decide
  have q3 : ((word 4).toList == [115, 116, 111, 114, 101]) = false := by rw [ByteArray.toList_eq]; decide
  have q4 : ((word 4).toList == [116, 114, 105, 109]) = true := by rw [ByteArray.toList_eq]; decide
  obtain ⟨i0, hi0, hz0, hz1, hz2⟩ := info_parts SInt.info_t
  have hzl : zs.length = m := by have := h.1; simpa using this
  have Hzl := Lib.hid hzl
  have H := Lib.hid h
  have hblk : ∀ q, (Value.slice A m c).ownBlock = some q → q ≠ w.heap.size := fun q hq => by have := (h.lt q hq).2; omega
  have Hblk := Lib.hid hblk
  clear h hzl hblk
  go_enter Tryd.func90, Tryd.ntmps90
  go_wp2
  go_loopw [1] (fun v wr => ∃ (A' : Option Addr) (j c' : Nat), v = .slice A' j c' ∧ m ≤ j ∧ j ≤ 1003 ∧ wr.ownsRow base 3 1 (.slice A' j c') j ((pd zs j).map I) ∧ (∀ q, (Value.slice A' j c').ownBlock = some q → q ≠ w.heap.size) ∧ Blk wr w.heap.size 44 #[I 0, I 0, I 0, I 0, I 0] ∧ Below base w wr) (fun v _ => 3 - lenV v)
  case atStart => exact ⟨A, m, c, rfl, by omega, by omega, by have e : pd zs m = zs := by { unfold pd; rw [Hzl.out]; simp }; rw [e]; exact H.out.alloc _, Hblk.out, Blk.new _ _ _, (Below.refl _ _).alloc hbase _⟩
  case round =>
    obtain ⟨A', j, c', rfl, hmj, hj, hown, hne, hbk, hbel⟩ := hrel
    have Hown := Lib.hid hown
    have Hne := Lib.hid hne
    have Hbk := Lib.hid hbk
    have Hbel := Lib.hid hbel
    have hsz := hbel.size
    clear hne
    by_cases hlt : j < 3
    · clear hown hbk hbel
      go_wp2_with (at_builtin; refine wpList_append_own_at _ rfl (.tmp 9) (.tmp 10) 66 rfl base 3 i0 (I 0) 1 8 Tryd.underlying66 hi0 hz0 hz1 hz2 rfl (by decide) _ _ _ rfl (Hown.out.alloc _) ⟨wr.heap.size, 0, none⟩ 1 1 [I 0] rfl rfl ?c1 ?c2 ?c3 ?c4 ?c5 ?_)
      case c1 => exact cells_new wr #[I 0] _
      case c2 => exact one_I [0]
      case c3 => unfold maxLen; omega
      case c4 => omega
      case c5 => first | omega | (simp; omega)
      intro v2 w2 hown2 hgr2 _ hat
      have hgw := Hbk.out.lt
      obtain ⟨A2, c2, rfl⟩ := own_form hown2
      have Hne2 : Hid (∀ q, (Value.slice A2 (j + 1) c2).ownBlock = some q → q ≠ w.heap.size) := by
        intro q hq
        rcases hat with e | e
        · rw [e] at hq; exact Hne.out q hq
        · rw [e] at hq; injection hq with hq; first | omega | (simp at hq; omega)
      have Hbk2 : Hid (Blk w2 w.heap.size 44 #[I 0, I 0, I 0, I 0, I 0]) := (hgr2.block _ (by first | omega | (simp; omega)) (fun e => Hne.out _ e.symm rfl)).trans (Hbk.out.alloc _)
      have Hown2 := Lib.hid hown2
      have Hbel2 := Lib.hid (Below.grown (Hbel.out.alloc (by omega) (.cells #[I 0] 3)) hgr2 (by first | omega | (simp; omega)) (fun q hq => (Hown.out.lt q hq).1))
      clear hown2 hgr2 hat
      go_wp2
      go_roundw
      case rel => exact ⟨A2, j + 1, c2, rfl, by omega, by omega, by rw [pd_step _ _ (by rw [Hzl.out]; omega), List.map_append]; exact Hown2.out, Hne2.out, Hbk2.out, Hbel2.out⟩
      case measure => simp [lenV]; omega
    · obtain ⟨g, rfl, hcell⟩ := own_cell hown (by omega)
      have e0 := hcell 0 (by omega)
      rw [pd_gI] at e0
      have e1 := hcell 1 (by omega)
      rw [pd_gI] at e1
      have b0 : wr.cell? ⟨w.heap.size, 0, none⟩ = some (I 0) := hbk.cell 0
      have f0 := hbk.frozen 0
      have b1 : wr.cell? ⟨w.heap.size, 1, none⟩ = some (I 0) := hbk.cell 1
      have f1 := hbk.frozen 1
      have b2 : wr.cell? ⟨w.heap.size, 2, none⟩ = some (I 0) := hbk.cell 2
      have f2 := hbk.frozen 2
      have b3 : wr.cell? ⟨w.heap.size, 3, none⟩ = some (I 0) := hbk.cell 3
      have f3 := hbk.frozen 3
      have b4 : wr.cell? ⟨w.heap.size, 4, none⟩ = some (I 0) := hbk.cell 4
      have f4 := hbk.frozen 4
      have l0 : (0 : Int) < (j : Int) := by omega
      have l1 : (1 : Int) < (j : Int) := by omega
      clear hcell hown hbk hbel
      go_wp2
      go_region
      go_wp2
      refine bodyPost_ret (ret_act rfl (p := 4) (u := 5) (g := w.heap.size) (x0 := 4) (x1 := 0) (x2 := gI zs 0) (x3 := 0) (x4 := gI zs 1) rfl (Blk.drew (Blk.set5 Hbk.out (I (4)) (I (0)) (I (gI zs 0)) (I (0)) (I (gI zs 1))))) rfl ⟨rfl, (((((Hbel.out.setCell hbase _).setCell hbase _).setCell hbase _).setCell hbase _).setCell hbase _).drew⟩
set_option maxHeartbeats 1000000 in
theorem make_5 (A : Option Addr) (m c base : Nat) (zs : List Int) (w : World) (h : w.ownsRow base 3 1 (.slice A m c) m (zs.map I)) (hbase : base ≤ w.heap.size) (hm : m ≤ 1000) :
    Calls Tryd.prog 90 #[.string (word 5), .slice A m c] w (MkRet 5 base zs w) := by
  have q1 : ((word 5).toList == [97, 108, 108, 111, 99]) = false := by rw [ByteArray.toList_eq]; decide
  have q2 : ((word 5).toList == [102, 114, 101, 101]) = false := by rw [ByteArray.toList_eq]; decide
  have q3 : ((word 5).toList == [115, 116, 111, 114, 101]) = false := by rw [ByteArray.toList_eq]; decide
  have q4 : ((word 5).toList == [116, 114, 105, 109]) = false := by rw [ByteArray.toList_eq]; decide
  have q5 : ((word 5).toList == [100, 101, 108, 105, 118, 101, 114]) = true := by rw [ByteArray.toList_eq]; decide
  obtain ⟨i0, hi0, hz0, hz1, hz2⟩ := info_parts SInt.info_t
  have hzl : zs.length = m := by have := h.1; simpa using this
  have Hzl := Lib.hid hzl
  have H := Lib.hid h
  have hblk : ∀ q, (Value.slice A m c).ownBlock = some q → q ≠ w.heap.size := fun q hq => by have := (h.lt q hq).2; omega
  have Hblk := Lib.hid hblk
  clear h hzl hblk
  go_enter Tryd.func90, Tryd.ntmps90
  go_wp2
  go_loopw [1] (fun v wr => ∃ (A' : Option Addr) (j c' : Nat), v = .slice A' j c' ∧ m ≤ j ∧ j ≤ 1003 ∧ wr.ownsRow base 3 1 (.slice A' j c') j ((pd zs j).map I) ∧ (∀ q, (Value.slice A' j c').ownBlock = some q → q ≠ w.heap.size) ∧ Blk wr w.heap.size 44 #[I 0, I 0, I 0, I 0, I 0] ∧ Below base w wr) (fun v _ => 3 - lenV v)
  case atStart => exact ⟨A, m, c, rfl, by omega, by omega, by have e : pd zs m = zs := by { unfold pd; rw [Hzl.out]; simp }; rw [e]; exact H.out.alloc _, Hblk.out, Blk.new _ _ _, (Below.refl _ _).alloc hbase _⟩
  case round =>
    obtain ⟨A', j, c', rfl, hmj, hj, hown, hne, hbk, hbel⟩ := hrel
    have Hown := Lib.hid hown
    have Hne := Lib.hid hne
    have Hbk := Lib.hid hbk
    have Hbel := Lib.hid hbel
    have hsz := hbel.size
    clear hne
    by_cases hlt : j < 3
    · clear hown hbk hbel
      go_wp2_with (at_builtin; refine wpList_append_own_at _ rfl (.tmp 9) (.tmp 10) 66 rfl base 3 i0 (I 0) 1 8 Tryd.underlying66 hi0 hz0 hz1 hz2 rfl (by decide) _ _ _ rfl (Hown.out.alloc _) ⟨wr.heap.size, 0, none⟩ 1 1 [I 0] rfl rfl ?c1 ?c2 ?c3 ?c4 ?c5 ?_)
      case c1 => exact cells_new wr #[I 0] _
      case c2 => exact one_I [0]
      case c3 => unfold maxLen; omega
      case c4 => omega
      case c5 => first | omega | (simp; omega)
      intro v2 w2 hown2 hgr2 _ hat
      have hgw := Hbk.out.lt
      obtain ⟨A2, c2, rfl⟩ := own_form hown2
      have Hne2 : Hid (∀ q, (Value.slice A2 (j + 1) c2).ownBlock = some q → q ≠ w.heap.size) := by
        intro q hq
        rcases hat with e | e
        · rw [e] at hq; exact Hne.out q hq
        · rw [e] at hq; injection hq with hq; first | omega | (simp at hq; omega)
      have Hbk2 : Hid (Blk w2 w.heap.size 44 #[I 0, I 0, I 0, I 0, I 0]) := (hgr2.block _ (by first | omega | (simp; omega)) (fun e => Hne.out _ e.symm rfl)).trans (Hbk.out.alloc _)
      have Hown2 := Lib.hid hown2
      have Hbel2 := Lib.hid (Below.grown (Hbel.out.alloc (by omega) (.cells #[I 0] 3)) hgr2 (by first | omega | (simp; omega)) (fun q hq => (Hown.out.lt q hq).1))
      clear hown2 hgr2 hat
      go_wp2
      go_roundw
      case rel => exact ⟨A2, j + 1, c2, rfl, by omega, by omega, by rw [pd_step _ _ (by rw [Hzl.out]; omega), List.map_append]; exact Hown2.out, Hne2.out, Hbk2.out, Hbel2.out⟩
      case measure => simp [lenV]; omega
    · obtain ⟨g, rfl, hcell⟩ := own_cell hown (by omega)
      have e0 := hcell 0 (by omega)
      rw [pd_gI] at e0
      have b0 : wr.cell? ⟨w.heap.size, 0, none⟩ = some (I 0) := hbk.cell 0
      have f0 := hbk.frozen 0
      have b1 : wr.cell? ⟨w.heap.size, 1, none⟩ = some (I 0) := hbk.cell 1
      have f1 := hbk.frozen 1
      have b2 : wr.cell? ⟨w.heap.size, 2, none⟩ = some (I 0) := hbk.cell 2
      have f2 := hbk.frozen 2
      have b3 : wr.cell? ⟨w.heap.size, 3, none⟩ = some (I 0) := hbk.cell 3
      have f3 := hbk.frozen 3
      have b4 : wr.cell? ⟨w.heap.size, 4, none⟩ = some (I 0) := hbk.cell 4
      have f4 := hbk.frozen 4
      clear hcell hown hbk hbel
      go_wp2
      skip
      go_wp2
      refine bodyPost_ret (ret_act rfl (p := 4) (u := 5) (g := w.heap.size) (x0 := 5) (x1 := gI zs 0) (x2 := 0) (x3 := 0) (x4 := 0) rfl (Blk.set5 Hbk.out (I (5)) (I (gI zs 0)) (I (0)) (I (0)) (I (0)))) rfl ⟨rfl, (((((Hbel.out.setCell hbase _).setCell hbase _).setCell hbase _).setCell hbase _).setCell hbase _)⟩
set_option maxHeartbeats 1000000 in
theorem make_6 (A : Option Addr) (m c base : Nat) (zs : List Int) (w : World) (h : w.ownsRow base 3 1 (.slice A m c) m (zs.map I)) (hbase : base ≤ w.heap.size) (hm : m ≤ 1000) :
    Calls Tryd.prog 90 #[.string (word 6), .slice A m c] w (MkRet 6 base zs w) := by
  have q1 : ((word 6).toList == [97, 108, 108, 111, 99]) = false := by rw [ByteArray.toList_eq]; decide
  have q2 : ((word 6).toList == [102, 114, 101, 101]) = false := by rw [ByteArray.toList_eq]; decide
  have q3 : ((word 6).toList == [115, 116, 111, 114, 101]) = false := by rw [ByteArray.toList_eq]; decide
  have q4 : ((word 6).toList == [116, 114, 105, 109]) = false := by rw [ByteArray.toList_eq]; decide
  have q5 : ((word 6).toList == [100, 101, 108, 105, 118, 101, 114]) = false := by rw [ByteArray.toList_eq]; decide
  have q6 : ((word 6).toList == [99, 111, 108, 108, 101, 99, 116]) = true := by rw [ByteArray.toList_eq]; decide
  obtain ⟨i0, hi0, hz0, hz1, hz2⟩ := info_parts SInt.info_t
  have hzl : zs.length = m := by have := h.1; simpa using this
  have Hzl := Lib.hid hzl
  have H := Lib.hid h
  have hblk : ∀ q, (Value.slice A m c).ownBlock = some q → q ≠ w.heap.size := fun q hq => by have := (h.lt q hq).2; omega
  have Hblk := Lib.hid hblk
  clear h hzl hblk
  go_enter Tryd.func90, Tryd.ntmps90
  go_wp2
  go_loopw [1] (fun v wr => ∃ (A' : Option Addr) (j c' : Nat), v = .slice A' j c' ∧ m ≤ j ∧ j ≤ 1003 ∧ wr.ownsRow base 3 1 (.slice A' j c') j ((pd zs j).map I) ∧ (∀ q, (Value.slice A' j c').ownBlock = some q → q ≠ w.heap.size) ∧ Blk wr w.heap.size 44 #[I 0, I 0, I 0, I 0, I 0] ∧ Below base w wr) (fun v _ => 3 - lenV v)
  case atStart => exact ⟨A, m, c, rfl, by omega, by omega, by have e : pd zs m = zs := by { unfold pd; rw [Hzl.out]; simp }; rw [e]; exact H.out.alloc _, Hblk.out, Blk.new _ _ _, (Below.refl _ _).alloc hbase _⟩
  case round =>
    obtain ⟨A', j, c', rfl, hmj, hj, hown, hne, hbk, hbel⟩ := hrel
    have Hown := Lib.hid hown
    have Hne := Lib.hid hne
    have Hbk := Lib.hid hbk
    have Hbel := Lib.hid hbel
    have hsz := hbel.size
    clear hne
    by_cases hlt : j < 3
    · clear hown hbk hbel
      go_wp2_with (at_builtin; refine wpList_append_own_at _ rfl (.tmp 9) (.tmp 10) 66 rfl base 3 i0 (I 0) 1 8 Tryd.underlying66 hi0 hz0 hz1 hz2 rfl (by decide) _ _ _ rfl (Hown.out.alloc _) ⟨wr.heap.size, 0, none⟩ 1 1 [I 0] rfl rfl ?c1 ?c2 ?c3 ?c4 ?c5 ?_)
      case c1 => exact cells_new wr #[I 0] _
      case c2 => exact one_I [0]
      case c3 => unfold maxLen; omega
      case c4 => omega
      case c5 => first | omega | (simp; omega)
      intro v2 w2 hown2 hgr2 _ hat
      have hgw := Hbk.out.lt
      obtain ⟨A2, c2, rfl⟩ := own_form hown2
      have Hne2 : Hid (∀ q, (Value.slice A2 (j + 1) c2).ownBlock = some q → q ≠ w.heap.size) := by
        intro q hq
        rcases hat with e | e
        · rw [e] at hq; exact Hne.out q hq
        · rw [e] at hq; injection hq with hq; first | omega | (simp at hq; omega)
      have Hbk2 : Hid (Blk w2 w.heap.size 44 #[I 0, I 0, I 0, I 0, I 0]) := (hgr2.block _ (by first | omega | (simp; omega)) (fun e => Hne.out _ e.symm rfl)).trans (Hbk.out.alloc _)
      have Hown2 := Lib.hid hown2
      have Hbel2 := Lib.hid (Below.grown (Hbel.out.alloc (by omega) (.cells #[I 0] 3)) hgr2 (by first | omega | (simp; omega)) (fun q hq => (Hown.out.lt q hq).1))
      clear hown2 hgr2 hat
      go_wp2
      go_roundw
      case rel => exact ⟨A2, j + 1, c2, rfl, by omega, by omega, by rw [pd_step _ _ (by rw [Hzl.out]; omega), List.map_append]; exact Hown2.out, Hne2.out, Hbk2.out, Hbel2.out⟩
      case measure => simp [lenV]; omega
    · obtain ⟨g, rfl, hcell⟩ := own_cell hown (by omega)
      have e0 := hcell 0 (by omega)
      rw [pd_gI] at e0
      have b0 : wr.cell? ⟨w.heap.size, 0, none⟩ = some (I 0) := hbk.cell 0
      have f0 := hbk.frozen 0
      have b1 : wr.cell? ⟨w.heap.size, 1, none⟩ = some (I 0) := hbk.cell 1
      have f1 := hbk.frozen 1
      have b2 : wr.cell? ⟨w.heap.size, 2, none⟩ = some (I 0) := hbk.cell 2
      have f2 := hbk.frozen 2
      have b3 : wr.cell? ⟨w.heap.size, 3, none⟩ = some (I 0) := hbk.cell 3
      have f3 := hbk.frozen 3
      have b4 : wr.cell? ⟨w.heap.size, 4, none⟩ = some (I 0) := hbk.cell 4
      have f4 := hbk.frozen 4
      clear hcell hown hbk hbel
      go_wp2
      skip
      go_wp2
      refine bodyPost_ret (ret_act rfl (p := 4) (u := 5) (g := w.heap.size) (x0 := 6) (x1 := gI zs 0) (x2 := 0) (x3 := 0) (x4 := 0) rfl (Blk.set5 Hbk.out (I (6)) (I (gI zs 0)) (I (0)) (I (0)) (I (0)))) rfl ⟨rfl, (((((Hbel.out.setCell hbase _).setCell hbase _).setCell hbase _).setCell hbase _).setCell hbase _)⟩
set_option maxHeartbeats 1000000 in
theorem make_7 (A : Option Addr) (m c base : Nat) (zs : List Int) (w : World) (h : w.ownsRow base 3 1 (.slice A m c) m (zs.map I)) (hbase : base ≤ w.heap.size) (hm : m ≤ 1000) :
    Calls Tryd.prog 90 #[.string (word 7), .slice A m c] w (MkRet 7 base zs w) := by
  have q1 : ((word 7).toList == [97, 108, 108, 111, 99]) = false := by rw [ByteArray.toList_eq]; decide
  have q2 : ((word 7).toList == [102, 114, 101, 101]) = false := by rw [ByteArray.toList_eq]; decide
  have q3 : ((word 7).toList == [115, 116, 111, 114, 101]) = false := by rw [ByteArray.toList_eq]; decide
  have q4 : ((word 7).toList == [116, 114, 105, 109]) = false := by rw [ByteArray.toList_eq]; decide
  have q5 : ((word 7).toList == [100, 101, 108, 105, 118, 101, 114]) = false := by rw [ByteArray.toList_eq]; decide
  have q6 : ((word 7).toList == [99, 111, 108, 108, 101, 99, 116]) = false := by rw [ByteArray.toList_eq]; decide
  have q7 : ((word 7).toList == [102, 108, 117, 115, 104]) = true := by rw [ByteArray.toList_eq]; decide
  obtain ⟨i0, hi0, hz0, hz1, hz2⟩ := info_parts SInt.info_t
  have hzl : zs.length = m := by have := h.1; simpa using this
  have Hzl := Lib.hid hzl
  have H := Lib.hid h
  have hblk : ∀ q, (Value.slice A m c).ownBlock = some q → q ≠ w.heap.size := fun q hq => by have := (h.lt q hq).2; omega
  have Hblk := Lib.hid hblk
  clear h hzl hblk
  go_enter Tryd.func90, Tryd.ntmps90
  go_wp2
  go_loopw [1] (fun v wr => ∃ (A' : Option Addr) (j c' : Nat), v = .slice A' j c' ∧ m ≤ j ∧ j ≤ 1003 ∧ wr.ownsRow base 3 1 (.slice A' j c') j ((pd zs j).map I) ∧ (∀ q, (Value.slice A' j c').ownBlock = some q → q ≠ w.heap.size) ∧ Blk wr w.heap.size 44 #[I 0, I 0, I 0, I 0, I 0] ∧ Below base w wr) (fun v _ => 3 - lenV v)
  case atStart => exact ⟨A, m, c, rfl, by omega, by omega, by have e : pd zs m = zs := by { unfold pd; rw [Hzl.out]; simp }; rw [e]; exact H.out.alloc _, Hblk.out, Blk.new _ _ _, (Below.refl _ _).alloc hbase _⟩
  case round =>
    obtain ⟨A', j, c', rfl, hmj, hj, hown, hne, hbk, hbel⟩ := hrel
    have Hown := Lib.hid hown
    have Hne := Lib.hid hne
    have Hbk := Lib.hid hbk
    have Hbel := Lib.hid hbel
    have hsz := hbel.size
    clear hne
    by_cases hlt : j < 3
    · clear hown hbk hbel
      go_wp2_with (at_builtin; refine wpList_append_own_at _ rfl (.tmp 9) (.tmp 10) 66 rfl base 3 i0 (I 0) 1 8 Tryd.underlying66 hi0 hz0 hz1 hz2 rfl (by decide) _ _ _ rfl (Hown.out.alloc _) ⟨wr.heap.size, 0, none⟩ 1 1 [I 0] rfl rfl ?c1 ?c2 ?c3 ?c4 ?c5 ?_)
      case c1 => exact cells_new wr #[I 0] _
      case c2 => exact one_I [0]
      case c3 => unfold maxLen; omega
      case c4 => omega
      case c5 => first | omega | (simp; omega)
      intro v2 w2 hown2 hgr2 _ hat
      have hgw := Hbk.out.lt
      obtain ⟨A2, c2, rfl⟩ := own_form hown2
      have Hne2 : Hid (∀ q, (Value.slice A2 (j + 1) c2).ownBlock = some q → q ≠ w.heap.size) := by
        intro q hq
        rcases hat with e | e
        · rw [e] at hq; exact Hne.out q hq
        · rw [e] at hq; injection hq with hq; first | omega | (simp at hq; omega)
      have Hbk2 : Hid (Blk w2 w.heap.size 44 #[I 0, I 0, I 0, I 0, I 0]) := (hgr2.block _ (by first | omega | (simp; omega)) (fun e => Hne.out _ e.symm rfl)).trans (Hbk.out.alloc _)
      have Hown2 := Lib.hid hown2
      have Hbel2 := Lib.hid (Below.grown (Hbel.out.alloc (by omega) (.cells #[I 0] 3)) hgr2 (by first | omega | (simp; omega)) (fun q hq => (Hown.out.lt q hq).1))
      clear hown2 hgr2 hat
      go_wp2
      go_roundw
      case rel => exact ⟨A2, j + 1, c2, rfl, by omega, by omega, by rw [pd_step _ _ (by rw [Hzl.out]; omega), List.map_append]; exact Hown2.out, Hne2.out, Hbk2.out, Hbel2.out⟩
      case measure => simp [lenV]; omega
    · obtain ⟨g, rfl, hcell⟩ := own_cell hown (by omega)
      have e0 := hcell 0 (by omega)
      rw [pd_gI] at e0
      have b0 : wr.cell? ⟨w.heap.size, 0, none⟩ = some (I 0) := hbk.cell 0
      have f0 := hbk.frozen 0
      have b1 : wr.cell? ⟨w.heap.size, 1, none⟩ = some (I 0) := hbk.cell 1
      have f1 := hbk.frozen 1
      have b2 : wr.cell? ⟨w.heap.size, 2, none⟩ = some (I 0) := hbk.cell 2
      have f2 := hbk.frozen 2
      have b3 : wr.cell? ⟨w.heap.size, 3, none⟩ = some (I 0) := hbk.cell 3
      have f3 := hbk.frozen 3
      have b4 : wr.cell? ⟨w.heap.size, 4, none⟩ = some (I 0) := hbk.cell 4
      have f4 := hbk.frozen 4
      clear hcell hown hbk hbel
      go_wp2
      skip
      go_wp2
      refine bodyPost_ret (ret_act rfl (p := 4) (u := 5) (g := w.heap.size) (x0 := 7) (x1 := gI zs 0) (x2 := 0) (x3 := 0) (x4 := 0) rfl (Blk.set5 Hbk.out (I (7)) (I (gI zs 0)) (I (0)) (I (0)) (I (0)))) rfl ⟨rfl, (((((Hbel.out.setCell hbase _).setCell hbase _).setCell hbase _).setCell hbase _).setCell hbase _)⟩
set_option maxHeartbeats 1000000 in
theorem make_8 (A : Option Addr) (m c base : Nat) (zs : List Int) (w : World) (h : w.ownsRow base 3 1 (.slice A m c) m (zs.map I)) (hbase : base ≤ w.heap.size) (hm : m ≤ 1000) :
    Calls Tryd.prog 90 #[.string (word 8), .slice A m c] w (MkRet 8 base zs w) := by
  have q1 : ((word 8).toList == [97, 108, 108, 111, 99]) = false := by rw [ByteArray.toList_eq]; decide
  have q2 : ((word 8).toList == [102, 114, 101, 101]) = false := by rw [ByteArray.toList_eq]; decide
  have q3 : ((word 8).toList == [115, 116, 111, 114, 101]) = false := by rw [ByteArray.toList_eq]; decide
  have q4 : ((word 8).toList == [116, 114, 105, 109]) = false := by rw [ByteArray.toList_eq]; decide
  have q5 : ((word 8).toList == [100, 101, 108, 105, 118, 101, 114]) = false := by rw [ByteArray.toList_eq]; decide
  have q6 : ((word 8).toList == [99, 111, 108, 108, 101, 99, 116]) = false := by rw [ByteArray.toList_eq]; decide
  have q7 : ((word 8).toList == [102, 108, 117, 115, 104]) = false := by rw [ByteArray.toList_eq]; decide
  have q8 : ((word 8).toList == [116, 105, 99, 107]) = true := by rw [ByteArray.toList_eq]; decide
  obtain ⟨i0, hi0, hz0, hz1, hz2⟩ := info_parts SInt.info_t
  have hzl : zs.length = m := by have := h.1; simpa using this
  have Hzl := Lib.hid hzl
  have H := Lib.hid h
  have hblk : ∀ q, (Value.slice A m c).ownBlock = some q → q ≠ w.heap.size := fun q hq => by have := (h.lt q hq).2; omega
  have Hblk := Lib.hid hblk
  clear h hzl hblk
  go_enter Tryd.func90, Tryd.ntmps90
  go_wp2
  go_loopw [1] (fun v wr => ∃ (A' : Option Addr) (j c' : Nat), v = .slice A' j c' ∧ m ≤ j ∧ j ≤ 1003 ∧ wr.ownsRow base 3 1 (.slice A' j c') j ((pd zs j).map I) ∧ (∀ q, (Value.slice A' j c').ownBlock = some q → q ≠ w.heap.size) ∧ Blk wr w.heap.size 44 #[I 0, I 0, I 0, I 0, I 0] ∧ Below base w wr) (fun v _ => 3 - lenV v)
  case atStart => exact ⟨A, m, c, rfl, by omega, by omega, by have e : pd zs m = zs := by { unfold pd; rw [Hzl.out]; simp }; rw [e]; exact H.out.alloc _, Hblk.out, Blk.new _ _ _, (Below.refl _ _).alloc hbase _⟩
  case round =>
    obtain ⟨A', j, c', rfl, hmj, hj, hown, hne, hbk, hbel⟩ := hrel
    have Hown := Lib.hid hown
    have Hne := Lib.hid hne
    have Hbk := Lib.hid hbk
    have Hbel := Lib.hid hbel
    have hsz := hbel.size
    clear hne
    by_cases hlt : j < 3
    · clear hown hbk hbel
      go_wp2_with (at_builtin; refine wpList_append_own_at _ rfl (.tmp 9) (.tmp 10) 66 rfl base 3 i0 (I 0) 1 8 Tryd.underlying66 hi0 hz0 hz1 hz2 rfl (by decide) _ _ _ rfl (Hown.out.alloc _) ⟨wr.heap.size, 0, none⟩ 1 1 [I 0] rfl rfl ?c1 ?c2 ?c3 ?c4 ?c5 ?_)
      case c1 => exact cells_new wr #[I 0] _
      case c2 => exact one_I [0]
      case c3 => unfold maxLen; omega
      case c4 => omega
      case c5 => first | omega | (simp; omega)
      intro v2 w2 hown2 hgr2 _ hat
      have hgw := Hbk.out.lt
      obtain ⟨A2, c2, rfl⟩ := own_form hown2
      have Hne2 : Hid (∀ q, (Value.slice A2 (j + 1) c2).ownBlock = some q → q ≠ w.heap.size) := by
        intro q hq
        rcases hat with e | e
        · rw [e] at hq; exact Hne.out q hq
        · rw [e] at hq; injection hq with hq; first | omega | (simp at hq; omega)
      have Hbk2 : Hid (Blk w2 w.heap.size 44 #[I 0, I 0, I 0, I 0, I 0]) := (hgr2.block _ (by first | omega | (simp; omega)) (fun e => Hne.out _ e.symm rfl)).trans (Hbk.out.alloc _)
      have Hown2 := Lib.hid hown2
      have Hbel2 := Lib.hid (Below.grown (Hbel.out.alloc (by omega) (.cells #[I 0] 3)) hgr2 (by first | omega | (simp; omega)) (fun q hq => (Hown.out.lt q hq).1))
      clear hown2 hgr2 hat
      go_wp2
      go_roundw
      case rel => exact ⟨A2, j + 1, c2, rfl, by omega, by omega, by rw [pd_step _ _ (by rw [Hzl.out]; omega), List.map_append]; exact Hown2.out, Hne2.out, Hbk2.out, Hbel2.out⟩
      case measure => simp [lenV]; omega
    · obtain ⟨g, rfl, hcell⟩ := own_cell hown (by omega)
      have e0 := hcell 0 (by omega)
      rw [pd_gI] at e0
      have b0 : wr.cell? ⟨w.heap.size, 0, none⟩ = some (I 0) := hbk.cell 0
      have f0 := hbk.frozen 0
      have b1 : wr.cell? ⟨w.heap.size, 1, none⟩ = some (I 0) := hbk.cell 1
      have f1 := hbk.frozen 1
      have b2 : wr.cell? ⟨w.heap.size, 2, none⟩ = some (I 0) := hbk.cell 2
      have f2 := hbk.frozen 2
      have b3 : wr.cell? ⟨w.heap.size, 3, none⟩ = some (I 0) := hbk.cell 3
      have f3 := hbk.frozen 3
      have b4 : wr.cell? ⟨w.heap.size, 4, none⟩ = some (I 0) := hbk.cell 4
      have f4 := hbk.frozen 4
      clear hcell hown hbk hbel
      go_wp2
      skip
      go_wp2
      refine bodyPost_ret (ret_act rfl (p := 4) (u := 5) (g := w.heap.size) (x0 := 8) (x1 := 0) (x2 := gI zs 0) (x3 := 0) (x4 := 0) rfl (Blk.set5 Hbk.out (I (8)) (I (0)) (I (gI zs 0)) (I (0)) (I (0)))) rfl ⟨rfl, (((((Hbel.out.setCell hbase _).setCell hbase _).setCell hbase _).setCell hbase _).setCell hbase _)⟩
set_option maxHeartbeats 1000000 in
theorem make_9 (A : Option Addr) (m c base : Nat) (zs : List Int) (w : World) (h : w.ownsRow base 3 1 (.slice A m c) m (zs.map I)) (hbase : base ≤ w.heap.size) (hm : m ≤ 1000) :
    Calls Tryd.prog 90 #[.string (word 9), .slice A m c] w (MkRet 9 base zs w) := by
  have q1 : ((word 9).toList == [97, 108, 108, 111, 99]) = false := by rw [ByteArray.toList_eq]; decide
  have q2 : ((word 9).toList == [102, 114, 101, 101]) = false := by rw [ByteArray.toList_eq]; decide
  have q3 : ((word 9).toList == [115, 116, 111, 114, 101]) = false := by rw [ByteArray.toList_eq]; decide
  have q4 : ((word 9).toList == [116, 114, 105, 109]) = false := by rw [ByteArray.toList_eq]; decide
  have q5 : ((word 9).toList == [100, 101, 108, 105, 118, 101, 114]) = false := by rw [ByteArray.toList_eq]; decide
  have q6 : ((word 9).toList == [99, 111, 108, 108, 101, 99, 116]) = false := by rw [ByteArray.toList_eq]; decide
  have q7 : ((word 9).toList == [102, 108, 117, 115, 104]) = false := by rw [ByteArray.toList_eq]; decide
  have q8 : ((word 9).toList == [116, 105, 99, 107]) = false := by rw [ByteArray.toList_eq]; decide
  have q9 : ((word 9).toList == [109, 101, 115, 104]) = true := by rw [ByteArray.toList_eq]; decide
  obtain ⟨i0, hi0, hz0, hz1, hz2⟩ := info_parts SInt.info_t
  have hzl : zs.length = m := by have := h.1; simpa using this
  have Hzl := Lib.hid hzl
  have H := Lib.hid h
  have hblk : ∀ q, (Value.slice A m c).ownBlock = some q → q ≠ w.heap.size := fun q hq => by have := (h.lt q hq).2; omega
  have Hblk := Lib.hid hblk
  clear h hzl hblk
  go_enter Tryd.func90, Tryd.ntmps90
  go_wp2
  go_loopw [1] (fun v wr => ∃ (A' : Option Addr) (j c' : Nat), v = .slice A' j c' ∧ m ≤ j ∧ j ≤ 1003 ∧ wr.ownsRow base 3 1 (.slice A' j c') j ((pd zs j).map I) ∧ (∀ q, (Value.slice A' j c').ownBlock = some q → q ≠ w.heap.size) ∧ Blk wr w.heap.size 44 #[I 0, I 0, I 0, I 0, I 0] ∧ Below base w wr) (fun v _ => 3 - lenV v)
  case atStart => exact ⟨A, m, c, rfl, by omega, by omega, by have e : pd zs m = zs := by { unfold pd; rw [Hzl.out]; simp }; rw [e]; exact H.out.alloc _, Hblk.out, Blk.new _ _ _, (Below.refl _ _).alloc hbase _⟩
  case round =>
    obtain ⟨A', j, c', rfl, hmj, hj, hown, hne, hbk, hbel⟩ := hrel
    have Hown := Lib.hid hown
    have Hne := Lib.hid hne
    have Hbk := Lib.hid hbk
    have Hbel := Lib.hid hbel
    have hsz := hbel.size
    clear hne
    by_cases hlt : j < 3
    · clear hown hbk hbel
      go_wp2_with (at_builtin; refine wpList_append_own_at _ rfl (.tmp 9) (.tmp 10) 66 rfl base 3 i0 (I 0) 1 8 Tryd.underlying66 hi0 hz0 hz1 hz2 rfl (by decide) _ _ _ rfl (Hown.out.alloc _) ⟨wr.heap.size, 0, none⟩ 1 1 [I 0] rfl rfl ?c1 ?c2 ?c3 ?c4 ?c5 ?_)
      case c1 => exact cells_new wr #[I 0] _
      case c2 => exact one_I [0]
      case c3 => unfold maxLen; omega
      case c4 => omega
      case c5 => first | omega | (simp; omega)
      intro v2 w2 hown2 hgr2 _ hat
      have hgw := Hbk.out.lt
      obtain ⟨A2, c2, rfl⟩ := own_form hown2
      have Hne2 : Hid (∀ q, (Value.slice A2 (j + 1) c2).ownBlock = some q → q ≠ w.heap.size) := by
        intro q hq
        rcases hat with e | e
        · rw [e] at hq; exact Hne.out q hq
        · rw [e] at hq; injection hq with hq; first | omega | (simp at hq; omega)
      have Hbk2 : Hid (Blk w2 w.heap.size 44 #[I 0, I 0, I 0, I 0, I 0]) := (hgr2.block _ (by first | omega | (simp; omega)) (fun e => Hne.out _ e.symm rfl)).trans (Hbk.out.alloc _)
      have Hown2 := Lib.hid hown2
      have Hbel2 := Lib.hid (Below.grown (Hbel.out.alloc (by omega) (.cells #[I 0] 3)) hgr2 (by first | omega | (simp; omega)) (fun q hq => (Hown.out.lt q hq).1))
      clear hown2 hgr2 hat
      go_wp2
      go_roundw
      case rel => exact ⟨A2, j + 1, c2, rfl, by omega, by omega, by rw [pd_step _ _ (by rw [Hzl.out]; omega), List.map_append]; exact Hown2.out, Hne2.out, Hbk2.out, Hbel2.out⟩
      case measure => simp [lenV]; omega
    · obtain ⟨g, rfl, hcell⟩ := own_cell hown (by omega)
      have b0 : wr.cell? ⟨w.heap.size, 0, none⟩ = some (I 0) := hbk.cell 0
      have f0 := hbk.frozen 0
      have b1 : wr.cell? ⟨w.heap.size, 1, none⟩ = some (I 0) := hbk.cell 1
      have f1 := hbk.frozen 1
      have b2 : wr.cell? ⟨w.heap.size, 2, none⟩ = some (I 0) := hbk.cell 2
      have f2 := hbk.frozen 2
      have b3 : wr.cell? ⟨w.heap.size, 3, none⟩ = some (I 0) := hbk.cell 3
      have f3 := hbk.frozen 3
      have b4 : wr.cell? ⟨w.heap.size, 4, none⟩ = some (I 0) := hbk.cell 4
      have f4 := hbk.frozen 4
      clear hcell hown hbk hbel
      go_wp2
      skip
      go_wp2
      refine bodyPost_ret (ret_act rfl (p := 4) (u := 5) (g := w.heap.size) (x0 := 9) (x1 := 0) (x2 := 0) (x3 := 0) (x4 := 0) rfl (Blk.set5 Hbk.out (I (9)) (I (0)) (I (0)) (I (0)) (I (0)))) rfl ⟨rfl, (((((Hbel.out.setCell hbase _).setCell hbase _).setCell hbase _).setCell hbase _).setCell hbase _)⟩
set_option maxHeartbeats 1000000 in
theorem make_10 (A : Option Addr) (m c base : Nat) (zs : List Int) (w : World) (h : w.ownsRow base 3 1 (.slice A m c) m (zs.map I)) (hbase : base ≤ w.heap.size) (hm : m ≤ 1000) :
    Calls Tryd.prog 90 #[.string (word 10), .slice A m c] w (MkRet 10 base zs w) := by
  have q1 : ((word 10).toList == [97, 108, 108, 111, 99]) = false := by rw [ByteArray.toList_eq]; decide
  have q2 : ((word 10).toList == [102, 114, 101, 101]) = false := by rw [ByteArray.toList_eq]; decide
  have q3 : ((word 10).toList == [115, 116, 111, 114, 101]) = false := by rw [ByteArray.toList_eq]; decide
  have q4 : ((word 10).toList == [116, 114, 105, 109]) = false := by rw [ByteArray.toList_eq]; decide
  have q5 : ((word 10).toList == [100, 101, 108, 105, 118, 101, 114]) = false := by rw [ByteArray.toList_eq]; decide
  have q6 : ((word 10).toList == [99, 111, 108, 108, 101, 99, 116]) = false := by rw [ByteArray.toList_eq]; decide
  have q7 : ((word 10).toList == [102, 108, 117, 115, 104]) = false := by rw [ByteArray.toList_eq]; decide
  have q8 : ((word 10).toList == [116, 105, 99, 107]) = false := by rw [ByteArray.toList_eq]; decide
  have q9 : ((word 10).toList == [109, 101, 115, 104]) = false := by rw [ByteArray.toList_eq]; decide
  have q10 : ((word 10).toList == [115, 116, 101, 112]) = true := by rw [ByteArray.toList_eq]; decide
  obtain ⟨i0, hi0, hz0, hz1, hz2⟩ := info_parts SInt.info_t
  have hzl : zs.length = m := by have := h.1; simpa using this
  have Hzl := Lib.hid hzl
  have H := Lib.hid h
  have hblk : ∀ q, (Value.slice A m c).ownBlock = some q → q ≠ w.heap.size := fun q hq => by have := (h.lt q hq).2; omega
  have Hblk := Lib.hid hblk
  clear h hzl hblk
  go_enter Tryd.func90, Tryd.ntmps90
  go_wp2
  go_loopw [1] (fun v wr => ∃ (A' : Option Addr) (j c' : Nat), v = .slice A' j c' ∧ m ≤ j ∧ j ≤ 1003 ∧ wr.ownsRow base 3 1 (.slice A' j c') j ((pd zs j).map I) ∧ (∀ q, (Value.slice A' j c').ownBlock = some q → q ≠ w.heap.size) ∧ Blk wr w.heap.size 44 #[I 0, I 0, I 0, I 0, I 0] ∧ Below base w wr) (fun v _ => 3 - lenV v)
  case atStart => exact ⟨A, m, c, rfl, by omega, by omega, by have e : pd zs m = zs := by { unfold pd; rw [Hzl.out]; simp }; rw [e]; exact H.out.alloc _, Hblk.out, Blk.new _ _ _, (Below.refl _ _).alloc hbase _⟩
  case round =>
    obtain ⟨A', j, c', rfl, hmj, hj, hown, hne, hbk, hbel⟩ := hrel
    have Hown := Lib.hid hown
    have Hne := Lib.hid hne
    have Hbk := Lib.hid hbk
    have Hbel := Lib.hid hbel
    have hsz := hbel.size
    clear hne
    by_cases hlt : j < 3
    · clear hown hbk hbel
      go_wp2_with (at_builtin; refine wpList_append_own_at _ rfl (.tmp 9) (.tmp 10) 66 rfl base 3 i0 (I 0) 1 8 Tryd.underlying66 hi0 hz0 hz1 hz2 rfl (by decide) _ _ _ rfl (Hown.out.alloc _) ⟨wr.heap.size, 0, none⟩ 1 1 [I 0] rfl rfl ?c1 ?c2 ?c3 ?c4 ?c5 ?_)
      case c1 => exact cells_new wr #[I 0] _
      case c2 => exact one_I [0]
      case c3 => unfold maxLen; omega
      case c4 => omega
      case c5 => first | omega | (simp; omega)
      intro v2 w2 hown2 hgr2 _ hat
      have hgw := Hbk.out.lt
      obtain ⟨A2, c2, rfl⟩ := own_form hown2
      have Hne2 : Hid (∀ q, (Value.slice A2 (j + 1) c2).ownBlock = some q → q ≠ w.heap.size) := by
        intro q hq
        rcases hat with e | e
        · rw [e] at hq; exact Hne.out q hq
        · rw [e] at hq; injection hq with hq; first | omega | (simp at hq; omega)
      have Hbk2 : Hid (Blk w2 w.heap.size 44 #[I 0, I 0, I 0, I 0, I 0]) := (hgr2.block _ (by first | omega | (simp; omega)) (fun e => Hne.out _ e.symm rfl)).trans (Hbk.out.alloc _)
      have Hown2 := Lib.hid hown2
      have Hbel2 := Lib.hid (Below.grown (Hbel.out.alloc (by omega) (.cells #[I 0] 3)) hgr2 (by first | omega | (simp; omega)) (fun q hq => (Hown.out.lt q hq).1))
      clear hown2 hgr2 hat
      go_wp2
      go_roundw
      case rel => exact ⟨A2, j + 1, c2, rfl, by omega, by omega, by rw [pd_step _ _ (by rw [Hzl.out]; omega), List.map_append]; exact Hown2.out, Hne2.out, Hbk2.out, Hbel2.out⟩
      case measure => simp [lenV]; omega
    · obtain ⟨g, rfl, hcell⟩ := own_cell hown (by omega)
      have e0 := hcell 0 (by omega)
      rw [pd_gI] at e0
      have b0 : wr.cell? ⟨w.heap.size, 0, none⟩ = some (I 0) := hbk.cell 0
      have f0 := hbk.frozen 0
      have b1 : wr.cell? ⟨w.heap.size, 1, none⟩ = some (I 0) := hbk.cell 1
      have f1 := hbk.frozen 1
      have b2 : wr.cell? ⟨w.heap.size, 2, none⟩ = some (I 0) := hbk.cell 2
      have f2 := hbk.frozen 2
      have b3 : wr.cell? ⟨w.heap.size, 3, none⟩ = some (I 0) := hbk.cell 3
      have f3 := hbk.frozen 3
      have b4 : wr.cell? ⟨w.heap.size, 4, none⟩ = some (I 0) := hbk.cell 4
      have f4 := hbk.frozen 4
      clear hcell hown hbk hbel
      go_wp2
      skip
      go_wp2
      refine bodyPost_ret (ret_act rfl (p := 4) (u := 5) (g := w.heap.size) (x0 := 10) (x1 := 0) (x2 := gI zs 0) (x3 := 0) (x4 := 0) rfl (Blk.set5 Hbk.out (I (10)) (I (0)) (I (gI zs 0)) (I (0)) (I (0)))) rfl ⟨rfl, (((((Hbel.out.setCell hbase _).setCell hbase _).setCell hbase _).setCell hbase _).setCell hbase _)⟩
end Go.Proofs.YtebiefhfhjgmaaaDoor.AcM
