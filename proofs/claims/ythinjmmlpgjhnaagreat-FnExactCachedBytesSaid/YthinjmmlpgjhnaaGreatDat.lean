/- The data of the program, its cells, its bulk and its marks. Printed by gen_data.py. No condition. -/
import Derived.Test.YthinjmmlpgjhnaaGreatDatH
namespace Go.Proofs.YthinjmmlpgjhnaaGreat.Ab
open Go.RowKit

/- []int -/
def rIntS (o : Own) (x : List Int) : List C := [.s o (x.map (rI o))]
theorem rIntS_fz (x : List Int) : fzL (rIntS .own x) = rIntS .imm x := by simp [fzL, rIntS, rI, fzL]
theorem rIntS_fr (x : List Int) : frL (rIntS .own x) := ⟨⟨.inl fun h => (by cases h), frR_map _ _ fun y _ => rI_fr y⟩, trivial⟩
def wfIntS (x : List Int) : Prop := x.length ≤ 9223372036854775807 ∧ ∀ y ∈ x, wfI y
def cntIntS (x : List Int) : Nat := x.length
def szIntS (x : List Int) : Nat := x.length
def smlIntS (x : List Int) : Prop := x.length ≤ 1048576
def markIntS : List Int → Int → List Int
  | [], _ => []
  | _ :: xs, k => k :: markIntS xs (k + 1)
theorem markIntS_len : ∀ (x : List Int) (k : Int), (markIntS x k).length = x.length
  | [], _ => rfl
  | _ :: xs, k => by simp [markIntS, markIntS_len xs]
theorem markIntS_get : ∀ (x : List Int) (k : Int) (i : Nat), i < x.length → (markIntS x k)[i]? = some (k + (i : Nat))
  | [], _, i, h => by simp at h
  | _ :: xs, k, 0, _ => by simp [markIntS]
  | _ :: xs, k, i + 1, h => by
    simp only [markIntS, List.getElem?_cons_succ]
    rw [markIntS_get xs (k + 1) i (by simpa using h)]
    rw [show k + 1 + (i : Int) = k + ((i + 1 : Nat) : Int) by omega]
def preIntS (_ : List Int) (i : Nat) : Nat := i
theorem smlIntS_of {x : List Int} (h : szIntS x ≤ 1048576) : smlIntS x := h
theorem cntIntS_le (x : List Int) : cntIntS x ≤ 8 * szIntS x := by unfold cntIntS szIntS; omega
/- [][]int -/
def rIntSS (o : Own) (x : List (List Int)) : List C := [.s o (x.map (rIntS o))]
theorem rIntSS_fz (x : List (List Int)) : fzL (rIntSS .own x) = rIntSS .imm x := by simp [fzL, rIntSS, rIntS_fz, ← fzL_map, Function.comp_def]
theorem rIntSS_fr (x : List (List Int)) : frL (rIntSS .own x) := ⟨⟨.inl fun h => (by cases h), frR_map _ _ fun y _ => rIntS_fr y⟩, trivial⟩
def wfIntSS (x : List (List Int)) : Prop := x.length ≤ 9223372036854775807 ∧ ∀ y ∈ x, wfIntS y
def cntIntSS : List (List Int) → Nat
  | [] => 0
  | x :: xs => cntIntS x + cntIntSS xs
def szIntSSE : List (List Int) → Nat
  | [] => 0
  | x :: xs => szIntS x + szIntSSE xs
def szIntSS (x : List (List Int)) : Nat := x.length + szIntSSE x
def smlIntSS (x : List (List Int)) : Prop := x.length ≤ 1048576 ∧ ∀ y ∈ x, smlIntS y
def markIntSS : List (List Int) → Int → List (List Int)
  | [], _ => []
  | x :: xs, k => markIntS x k :: markIntSS xs (k + (cntIntS x : Nat))
theorem markIntSS_len : ∀ (x : List (List Int)) (k : Int), (markIntSS x k).length = x.length
  | [], _ => rfl
  | _ :: xs, k => by simp [markIntSS, markIntSS_len xs]
/-- How many marks the first i elements take. -/
def preIntSS : List (List Int) → Nat → Nat
  | [], _ => 0
  | _ :: _, 0 => 0
  | x :: xs, i + 1 => cntIntS x + preIntSS xs i
theorem markIntSS_get : ∀ (x : List (List Int)) (k : Int) (i : Nat) (y : List Int), x[i]? = some y → (markIntSS x k)[i]? = some (markIntS y (k + (preIntSS x i : Nat)))
  | [], _, i, y, h => by simp at h
  | x :: xs, k, 0, y, h => by simp at h; subst h; simp [markIntSS, preIntSS]
  | x :: xs, k, i + 1, y, h => by
    simp only [markIntSS, List.getElem?_cons_succ]
    rw [markIntSS_get xs _ i y (by simpa using h)]
    congr 2
    simp only [preIntSS]
    omega
theorem preIntSS_zero (x : List (List Int)) : preIntSS x 0 = 0 := by cases x <;> rfl
theorem preIntSS_succ : ∀ (x : List (List Int)) (i : Nat) (y : List Int), x[i]? = some y → preIntSS x (i + 1) = preIntSS x i + cntIntS y
  | [], i, y, h => by simp at h
  | x :: xs, 0, y, h => by simp at h; subst h; simp [preIntSS, preIntSS_zero]
  | x :: xs, i + 1, y, h => by
    simp only [preIntSS]
    rw [preIntSS_succ xs i y (by simpa using h)]
    omega
theorem preIntSS_all : ∀ (x : List (List Int)), preIntSS x x.length = cntIntSS x
  | [] => rfl
  | x :: xs => by simp only [List.length_cons, preIntSS, cntIntSS, preIntSS_all xs]
theorem szIntSSE_mem : ∀ {x : List (List Int)} {y : List Int}, y ∈ x → szIntS y ≤ szIntSSE x
  | [], y, h => by simp at h
  | x :: xs, y, h => by
    simp only [szIntSSE]
    rcases List.mem_cons.1 h with rfl | h
    · omega
    · have := szIntSSE_mem h; omega
theorem smlIntSS_of {x : List (List Int)} (h : szIntSS x ≤ 1048576) : smlIntSS x := ⟨by unfold szIntSS at h; omega, fun y hy => smlIntS_of (by have := szIntSSE_mem hy; unfold szIntSS at h; omega)⟩
theorem cntIntSSE_le : ∀ (x : List (List Int)), cntIntSS x ≤ 8 * szIntSSE x
  | [] => by simp [cntIntSS]
  | x :: xs => by have := cntIntSSE_le xs; have := cntIntS_le x; simp only [cntIntSS, szIntSSE]; omega
theorem cntIntSS_le (x : List (List Int)) : cntIntSS x ≤ 8 * szIntSS x := by have := cntIntSSE_le x; unfold szIntSS; omega
def spreIntSS : List (List Int) → Nat → Nat
  | [], _ => 0
  | _ :: _, 0 => 0
  | x :: xs, i + 1 => szIntS x + spreIntSS xs i
theorem spreIntSS_zero (x : List (List Int)) : spreIntSS x 0 = 0 := by cases x <;> rfl
theorem spreIntSS_succ : ∀ (x : List (List Int)) (i : Nat) (y : List Int), x[i]? = some y → spreIntSS x (i + 1) = spreIntSS x i + szIntS y
  | [], i, y, h => by simp at h
  | x :: xs, 0, y, h => by simp at h; subst h; simp [spreIntSS, spreIntSS_zero]
  | x :: xs, i + 1, y, h => by
    simp only [spreIntSS]
    rw [spreIntSS_succ xs i y (by simpa using h)]
    omega
theorem spreIntSS_all : ∀ (x : List (List Int)), spreIntSS x x.length = szIntSSE x
  | [] => rfl
  | x :: xs => by simp only [List.length_cons, spreIntSS, szIntSSE, spreIntSS_all xs]
theorem spreIntSS_le : ∀ (x : List (List Int)) (i : Nat), spreIntSS x i ≤ szIntSSE x
  | [], _ => by simp [spreIntSS]
  | x :: xs, 0 => by simp [spreIntSS]
  | x :: xs, i + 1 => by simp only [spreIntSS, szIntSSE]; have := spreIntSS_le xs i; omega
theorem preIntSS_le : ∀ (x : List (List Int)) (i : Nat), preIntSS x i ≤ cntIntSS x
  | [], _ => by simp [preIntSS]
  | x :: xs, 0 => by simp [preIntSS]
  | x :: xs, i + 1 => by simp only [preIntSS, cntIntSS]; have := preIntSS_le xs i; omega
/- []bool -/
def rBoolS (o : Own) (x : List Bool) : List C := [.s o (x.map (rB o))]
theorem rBoolS_fz (x : List Bool) : fzL (rBoolS .own x) = rBoolS .imm x := by simp [fzL, rBoolS, rB, fzL]
theorem rBoolS_fr (x : List Bool) : frL (rBoolS .own x) := ⟨⟨.inl fun h => (by cases h), frR_map _ _ fun y _ => rB_fr y⟩, trivial⟩
def wfBoolS (x : List Bool) : Prop := x.length ≤ 9223372036854775807 ∧ ∀ y ∈ x, wfB y
def cntBoolS (x : List Bool) : Nat := x.length
def szBoolS (x : List Bool) : Nat := x.length
def smlBoolS (x : List Bool) : Prop := x.length ≤ 1048576
def markBoolS : List Bool → Int → List Bool
  | [], _ => []
  | _ :: xs, k => decide (k.tmod 3 = 0) :: markBoolS xs (k + 1)
theorem markBoolS_len : ∀ (x : List Bool) (k : Int), (markBoolS x k).length = x.length
  | [], _ => rfl
  | _ :: xs, k => by simp [markBoolS, markBoolS_len xs]
theorem markBoolS_get : ∀ (x : List Bool) (k : Int) (i : Nat), i < x.length → (markBoolS x k)[i]? = some (decide ((k + (i : Nat)).tmod 3 = 0))
  | [], _, i, h => by simp at h
  | _ :: xs, k, 0, _ => by simp [markBoolS]
  | _ :: xs, k, i + 1, h => by
    simp only [markBoolS, List.getElem?_cons_succ]
    rw [markBoolS_get xs (k + 1) i (by simpa using h)]
    rw [show k + 1 + (i : Int) = k + ((i + 1 : Nat) : Int) by omega]
def preBoolS (_ : List Bool) (i : Nat) : Nat := i
theorem smlBoolS_of {x : List Bool} (h : szBoolS x ≤ 1048576) : smlBoolS x := h
theorem cntBoolS_le (x : List Bool) : cntBoolS x ≤ 8 * szBoolS x := by unfold cntBoolS szBoolS; omega
/- DFrames -/
structure DFrames where
  Cells : List (List Int)
  Used : List Bool
deriving DecidableEq, Inhabited
def DFrames.enc (o : Own) (x : DFrames) : List C := [.s o (x.Cells.map (rIntS o)), .s o (x.Used.map (rB o))]
theorem DFrames.enc_fz (x : DFrames) : fzL (DFrames.enc .own x) = DFrames.enc .imm x := by simp [fzL, DFrames.enc, rB, rIntS_fz, ← fzL_map, Function.comp_def]
theorem DFrames.enc_fr (x : DFrames) : frL (DFrames.enc .own x) := ⟨⟨.inl fun h => (by cases h), frR_map _ _ fun y _ => rIntS_fr y⟩, ⟨.inl fun h => (by cases h), frR_map _ _ fun y _ => rB_fr y⟩, trivial⟩
def DFrames.wf (x : DFrames) : Prop := wfIntSS x.Cells ∧ wfBoolS x.Used
def DFrames.cnt (x : DFrames) : Nat := cntIntSS x.Cells + cntBoolS x.Used
def DFrames.sz (x : DFrames) : Nat := szIntSS x.Cells + szBoolS x.Used
def DFrames.sml (x : DFrames) : Prop := smlIntSS x.Cells ∧ smlBoolS x.Used
theorem DFrames.sml_of {x : DFrames} (h : DFrames.sz x ≤ 1048576) : DFrames.sml x := ⟨smlIntSS_of (by unfold DFrames.sz at h; omega), smlBoolS_of (by unfold DFrames.sz at h; omega)⟩
theorem DFrames.cnt_le (x : DFrames) : DFrames.cnt x ≤ 8 * DFrames.sz x := by unfold DFrames.cnt DFrames.sz; have := cntIntSS_le x.Cells; have := cntBoolS_le x.Used; omega
def DFrames.mark (x : DFrames) (k : Int) : DFrames := { x with Cells := markIntSS x.Cells (k), Used := markBoolS x.Used (k + (cntIntSS x.Cells : Nat)) }
/- DEntry -/
structure DEntry where
  Mode : Int
  Frame : Int
deriving DecidableEq, Inhabited
def DEntry.enc (o : Own) (x : DEntry) : List C := [I x.Mode, I x.Frame]
theorem DEntry.enc_fz (x : DEntry) : fzL (DEntry.enc .own x) = DEntry.enc .imm x := by simp [fzL, DEntry.enc]
theorem DEntry.enc_fr (x : DEntry) : frL (DEntry.enc .own x) := ⟨trivial, trivial, trivial⟩
def DEntry.wf (x : DEntry) : Prop := wfI x.Mode ∧ wfI x.Frame
def DEntry.cnt (_ : DEntry) : Nat := 2
def DEntry.sml (_ : DEntry) : Prop := True
def DEntry.sz (_ : DEntry) : Nat := 0
theorem DEntry.sml_of {x : DEntry} (_ : DEntry.sz x ≤ 1048576) : DEntry.sml x := trivial
def DEntry.mark (_ : DEntry) (k : Int) : DEntry := ⟨k, k + 1⟩
/- []DEntry -/
def rDEntryS (o : Own) (x : List DEntry) : List C := [.s o (x.map (DEntry.enc o))]
theorem rDEntryS_fz (x : List DEntry) : fzL (rDEntryS .own x) = rDEntryS .imm x := by simp [fzL, rDEntryS, DEntry.enc_fz, ← fzL_map, Function.comp_def]
theorem rDEntryS_fr (x : List DEntry) : frL (rDEntryS .own x) := ⟨⟨.inl fun h => (by cases h), frR_map _ _ fun y _ => DEntry.enc_fr y⟩, trivial⟩
def wfDEntryS (x : List DEntry) : Prop := x.length ≤ 9223372036854775807 ∧ ∀ y ∈ x, DEntry.wf y
def cntDEntryS : List DEntry → Nat
  | [] => 0
  | x :: xs => DEntry.cnt x + cntDEntryS xs
def szDEntryS (x : List DEntry) : Nat := x.length
def smlDEntryS (x : List DEntry) : Prop := x.length ≤ 1048576 ∧ ∀ y ∈ x, DEntry.sml y
def markDEntryS : List DEntry → Int → List DEntry
  | [], _ => []
  | x :: xs, k => DEntry.mark x k :: markDEntryS xs (k + (DEntry.cnt x : Nat))
theorem markDEntryS_len : ∀ (x : List DEntry) (k : Int), (markDEntryS x k).length = x.length
  | [], _ => rfl
  | _ :: xs, k => by simp [markDEntryS, markDEntryS_len xs]
/-- How many marks the first i elements take. -/
def preDEntryS : List DEntry → Nat → Nat
  | [], _ => 0
  | _ :: _, 0 => 0
  | x :: xs, i + 1 => DEntry.cnt x + preDEntryS xs i
theorem markDEntryS_get : ∀ (x : List DEntry) (k : Int) (i : Nat) (y : DEntry), x[i]? = some y → (markDEntryS x k)[i]? = some (DEntry.mark y (k + (preDEntryS x i : Nat)))
  | [], _, i, y, h => by simp at h
  | x :: xs, k, 0, y, h => by simp at h; subst h; simp [markDEntryS, preDEntryS]
  | x :: xs, k, i + 1, y, h => by
    simp only [markDEntryS, List.getElem?_cons_succ]
    rw [markDEntryS_get xs _ i y (by simpa using h)]
    congr 2
    simp only [preDEntryS]
    omega
theorem preDEntryS_zero (x : List DEntry) : preDEntryS x 0 = 0 := by cases x <;> rfl
theorem preDEntryS_succ : ∀ (x : List DEntry) (i : Nat) (y : DEntry), x[i]? = some y → preDEntryS x (i + 1) = preDEntryS x i + DEntry.cnt y
  | [], i, y, h => by simp at h
  | x :: xs, 0, y, h => by simp at h; subst h; simp [preDEntryS, preDEntryS_zero]
  | x :: xs, i + 1, y, h => by
    simp only [preDEntryS]
    rw [preDEntryS_succ xs i y (by simpa using h)]
    omega
theorem preDEntryS_all : ∀ (x : List DEntry), preDEntryS x x.length = cntDEntryS x
  | [] => rfl
  | x :: xs => by simp only [List.length_cons, preDEntryS, cntDEntryS, preDEntryS_all xs]
theorem smlDEntryS_of {x : List DEntry} (h : szDEntryS x ≤ 1048576) : smlDEntryS x := ⟨h, fun _ _ => trivial⟩
theorem cntDEntryS_le : ∀ (x : List DEntry), cntDEntryS x ≤ 8 * szDEntryS x
  | [] => by simp [cntDEntryS]
  | x :: xs => by have := cntDEntryS_le xs; simp only [cntDEntryS, szDEntryS, List.length_cons, DEntry.cnt] at this ⊢; omega
theorem preDEntryS_le : ∀ (x : List DEntry) (i : Nat), preDEntryS x i ≤ cntDEntryS x
  | [], _ => by simp [preDEntryS]
  | x :: xs, 0 => by simp [preDEntryS]
  | x :: xs, i + 1 => by simp only [preDEntryS, cntDEntryS]; have := preDEntryS_le xs i; omega
/- DTable -/
structure DTable where
  Entries : List DEntry
deriving DecidableEq, Inhabited
def DTable.enc (o : Own) (x : DTable) : List C := [.s o (x.Entries.map (DEntry.enc o))]
theorem DTable.enc_fz (x : DTable) : fzL (DTable.enc .own x) = DTable.enc .imm x := by simp [fzL, DTable.enc, DEntry.enc_fz, ← fzL_map, Function.comp_def]
theorem DTable.enc_fr (x : DTable) : frL (DTable.enc .own x) := ⟨⟨.inl fun h => (by cases h), frR_map _ _ fun y _ => DEntry.enc_fr y⟩, trivial⟩
def DTable.wf (x : DTable) : Prop := wfDEntryS x.Entries
def DTable.cnt (x : DTable) : Nat := cntDEntryS x.Entries
def DTable.sz (x : DTable) : Nat := szDEntryS x.Entries
def DTable.sml (x : DTable) : Prop := smlDEntryS x.Entries
theorem DTable.sml_of {x : DTable} (h : DTable.sz x ≤ 1048576) : DTable.sml x := smlDEntryS_of (by unfold DTable.sz at h; omega)
theorem DTable.cnt_le (x : DTable) : DTable.cnt x ≤ 8 * DTable.sz x := by unfold DTable.cnt DTable.sz; have := cntDEntryS_le x.Entries; omega
def DTable.mark (x : DTable) (k : Int) : DTable := { x with Entries := markDEntryS x.Entries (k) }
/- DMachine -/
structure DMachine where
  Frames : DFrames
  Table : DTable
deriving DecidableEq, Inhabited
def DMachine.enc (o : Own) (x : DMachine) : List C := [.s o (x.Frames.Cells.map (rIntS o)), .s o (x.Frames.Used.map (rB o)), .s o (x.Table.Entries.map (DEntry.enc o))]
theorem DMachine.enc_fz (x : DMachine) : fzL (DMachine.enc .own x) = DMachine.enc .imm x := by simp [fzL, DMachine.enc, DEntry.enc_fz, rB, rIntS_fz, ← fzL_map, Function.comp_def]
theorem DMachine.enc_fr (x : DMachine) : frL (DMachine.enc .own x) := ⟨⟨.inl fun h => (by cases h), frR_map _ _ fun y _ => rIntS_fr y⟩, ⟨.inl fun h => (by cases h), frR_map _ _ fun y _ => rB_fr y⟩, ⟨.inl fun h => (by cases h), frR_map _ _ fun y _ => DEntry.enc_fr y⟩, trivial⟩
def DMachine.wf (x : DMachine) : Prop := DFrames.wf x.Frames ∧ DTable.wf x.Table
def DMachine.cnt (x : DMachine) : Nat := DFrames.cnt x.Frames + DTable.cnt x.Table
def DMachine.sz (x : DMachine) : Nat := DFrames.sz x.Frames + DTable.sz x.Table
def DMachine.sml (x : DMachine) : Prop := DFrames.sml x.Frames ∧ DTable.sml x.Table
theorem DMachine.sml_of {x : DMachine} (h : DMachine.sz x ≤ 1048576) : DMachine.sml x := ⟨DFrames.sml_of (by unfold DMachine.sz at h; omega), DTable.sml_of (by unfold DMachine.sz at h; omega)⟩
theorem DMachine.cnt_le (x : DMachine) : DMachine.cnt x ≤ 8 * DMachine.sz x := by unfold DMachine.cnt DMachine.sz; have := DFrames.cnt_le x.Frames; have := DTable.cnt_le x.Table; omega
def DMachine.mark (x : DMachine) (k : Int) : DMachine := { x with Frames := DFrames.mark x.Frames (k), Table := DTable.mark x.Table (k + (DFrames.cnt x.Frames : Nat)) }
/- DKernel -/
structure DKernel where
  Machine : DMachine
  Calls : Int
  Refuse : List Int
deriving DecidableEq, Inhabited
def DKernel.enc (o : Own) (x : DKernel) : List C := [.s o (x.Machine.Frames.Cells.map (rIntS o)), .s o (x.Machine.Frames.Used.map (rB o)), .s o (x.Machine.Table.Entries.map (DEntry.enc o)), I x.Calls, .s o (x.Refuse.map (rI o))]
theorem DKernel.enc_fz (x : DKernel) : fzL (DKernel.enc .own x) = DKernel.enc .imm x := by simp [fzL, DKernel.enc, DEntry.enc_fz, rB, rI, rIntS_fz, ← fzL_map, Function.comp_def]
theorem DKernel.enc_fr (x : DKernel) : frL (DKernel.enc .own x) := ⟨⟨.inl fun h => (by cases h), frR_map _ _ fun y _ => rIntS_fr y⟩, ⟨.inl fun h => (by cases h), frR_map _ _ fun y _ => rB_fr y⟩, ⟨.inl fun h => (by cases h), frR_map _ _ fun y _ => DEntry.enc_fr y⟩, trivial, ⟨.inl fun h => (by cases h), frR_map _ _ fun y _ => rI_fr y⟩, trivial⟩
def DKernel.wf (x : DKernel) : Prop := DMachine.wf x.Machine ∧ wfI x.Calls ∧ wfIntS x.Refuse
def DKernel.cnt (x : DKernel) : Nat := DMachine.cnt x.Machine + cntIntS x.Refuse
def DKernel.sz (x : DKernel) : Nat := DMachine.sz x.Machine + szIntS x.Refuse
def DKernel.sml (x : DKernel) : Prop := DMachine.sml x.Machine ∧ smlIntS x.Refuse
theorem DKernel.sml_of {x : DKernel} (h : DKernel.sz x ≤ 1048576) : DKernel.sml x := ⟨DMachine.sml_of (by unfold DKernel.sz at h; omega), smlIntS_of (by unfold DKernel.sz at h; omega)⟩
theorem DKernel.cnt_le (x : DKernel) : DKernel.cnt x ≤ 8 * DKernel.sz x := by unfold DKernel.cnt DKernel.sz; have := DMachine.cnt_le x.Machine; have := cntIntS_le x.Refuse; omega
def DKernel.mark (x : DKernel) (k : Int) : DKernel := { x with Machine := DMachine.mark x.Machine (k), Refuse := markIntS x.Refuse (k + (DMachine.cnt x.Machine : Nat)) }
/- DRange -/
structure DRange where
  At : Int
  Len : Int
deriving DecidableEq, Inhabited
def DRange.enc (o : Own) (x : DRange) : List C := [I x.At, I x.Len]
theorem DRange.enc_fz (x : DRange) : fzL (DRange.enc .own x) = DRange.enc .imm x := by simp [fzL, DRange.enc]
theorem DRange.enc_fr (x : DRange) : frL (DRange.enc .own x) := ⟨trivial, trivial, trivial⟩
def DRange.wf (x : DRange) : Prop := wfI x.At ∧ wfI x.Len
def DRange.cnt (_ : DRange) : Nat := 2
def DRange.sml (_ : DRange) : Prop := True
def DRange.sz (_ : DRange) : Nat := 0
theorem DRange.sml_of {x : DRange} (_ : DRange.sz x ≤ 1048576) : DRange.sml x := trivial
def DRange.mark (_ : DRange) (k : Int) : DRange := ⟨k, k + 1⟩
/- []DRange -/
def rDRangeS (o : Own) (x : List DRange) : List C := [.s o (x.map (DRange.enc o))]
theorem rDRangeS_fz (x : List DRange) : fzL (rDRangeS .own x) = rDRangeS .imm x := by simp [fzL, rDRangeS, DRange.enc_fz, ← fzL_map, Function.comp_def]
theorem rDRangeS_fr (x : List DRange) : frL (rDRangeS .own x) := ⟨⟨.inl fun h => (by cases h), frR_map _ _ fun y _ => DRange.enc_fr y⟩, trivial⟩
def wfDRangeS (x : List DRange) : Prop := x.length ≤ 9223372036854775807 ∧ ∀ y ∈ x, DRange.wf y
def cntDRangeS : List DRange → Nat
  | [] => 0
  | x :: xs => DRange.cnt x + cntDRangeS xs
def szDRangeS (x : List DRange) : Nat := x.length
def smlDRangeS (x : List DRange) : Prop := x.length ≤ 1048576 ∧ ∀ y ∈ x, DRange.sml y
def markDRangeS : List DRange → Int → List DRange
  | [], _ => []
  | x :: xs, k => DRange.mark x k :: markDRangeS xs (k + (DRange.cnt x : Nat))
theorem markDRangeS_len : ∀ (x : List DRange) (k : Int), (markDRangeS x k).length = x.length
  | [], _ => rfl
  | _ :: xs, k => by simp [markDRangeS, markDRangeS_len xs]
/-- How many marks the first i elements take. -/
def preDRangeS : List DRange → Nat → Nat
  | [], _ => 0
  | _ :: _, 0 => 0
  | x :: xs, i + 1 => DRange.cnt x + preDRangeS xs i
theorem markDRangeS_get : ∀ (x : List DRange) (k : Int) (i : Nat) (y : DRange), x[i]? = some y → (markDRangeS x k)[i]? = some (DRange.mark y (k + (preDRangeS x i : Nat)))
  | [], _, i, y, h => by simp at h
  | x :: xs, k, 0, y, h => by simp at h; subst h; simp [markDRangeS, preDRangeS]
  | x :: xs, k, i + 1, y, h => by
    simp only [markDRangeS, List.getElem?_cons_succ]
    rw [markDRangeS_get xs _ i y (by simpa using h)]
    congr 2
    simp only [preDRangeS]
    omega
theorem preDRangeS_zero (x : List DRange) : preDRangeS x 0 = 0 := by cases x <;> rfl
theorem preDRangeS_succ : ∀ (x : List DRange) (i : Nat) (y : DRange), x[i]? = some y → preDRangeS x (i + 1) = preDRangeS x i + DRange.cnt y
  | [], i, y, h => by simp at h
  | x :: xs, 0, y, h => by simp at h; subst h; simp [preDRangeS, preDRangeS_zero]
  | x :: xs, i + 1, y, h => by
    simp only [preDRangeS]
    rw [preDRangeS_succ xs i y (by simpa using h)]
    omega
theorem preDRangeS_all : ∀ (x : List DRange), preDRangeS x x.length = cntDRangeS x
  | [] => rfl
  | x :: xs => by simp only [List.length_cons, preDRangeS, cntDRangeS, preDRangeS_all xs]
theorem smlDRangeS_of {x : List DRange} (h : szDRangeS x ≤ 1048576) : smlDRangeS x := ⟨h, fun _ _ => trivial⟩
theorem cntDRangeS_le : ∀ (x : List DRange), cntDRangeS x ≤ 8 * szDRangeS x
  | [] => by simp [cntDRangeS]
  | x :: xs => by have := cntDRangeS_le xs; simp only [cntDRangeS, szDRangeS, List.length_cons, DRange.cnt] at this ⊢; omega
theorem preDRangeS_le : ∀ (x : List DRange) (i : Nat), preDRangeS x i ≤ cntDRangeS x
  | [], _ => by simp [preDRangeS]
  | x :: xs, 0 => by simp [preDRangeS]
  | x :: xs, i + 1 => by simp only [preDRangeS, cntDRangeS]; have := preDRangeS_le xs i; omega
/- DSpan -/
structure DSpan where
  Page : Int
  Class : Int
  Bits : Int
deriving DecidableEq, Inhabited
def DSpan.enc (o : Own) (x : DSpan) : List C := [I x.Page, I x.Class, I x.Bits]
theorem DSpan.enc_fz (x : DSpan) : fzL (DSpan.enc .own x) = DSpan.enc .imm x := by simp [fzL, DSpan.enc]
theorem DSpan.enc_fr (x : DSpan) : frL (DSpan.enc .own x) := ⟨trivial, trivial, trivial, trivial⟩
def DSpan.wf (x : DSpan) : Prop := wfI x.Page ∧ wfI x.Class ∧ wfI x.Bits
def DSpan.cnt (_ : DSpan) : Nat := 3
def DSpan.sml (_ : DSpan) : Prop := True
def DSpan.sz (_ : DSpan) : Nat := 0
theorem DSpan.sml_of {x : DSpan} (_ : DSpan.sz x ≤ 1048576) : DSpan.sml x := trivial
def DSpan.mark (_ : DSpan) (k : Int) : DSpan := ⟨k, k + 1, k + 1 + 1⟩
/- []DSpan -/
def rDSpanS (o : Own) (x : List DSpan) : List C := [.s o (x.map (DSpan.enc o))]
theorem rDSpanS_fz (x : List DSpan) : fzL (rDSpanS .own x) = rDSpanS .imm x := by simp [fzL, rDSpanS, DSpan.enc_fz, ← fzL_map, Function.comp_def]
theorem rDSpanS_fr (x : List DSpan) : frL (rDSpanS .own x) := ⟨⟨.inl fun h => (by cases h), frR_map _ _ fun y _ => DSpan.enc_fr y⟩, trivial⟩
def wfDSpanS (x : List DSpan) : Prop := x.length ≤ 9223372036854775807 ∧ ∀ y ∈ x, DSpan.wf y
def cntDSpanS : List DSpan → Nat
  | [] => 0
  | x :: xs => DSpan.cnt x + cntDSpanS xs
def szDSpanS (x : List DSpan) : Nat := x.length
def smlDSpanS (x : List DSpan) : Prop := x.length ≤ 1048576 ∧ ∀ y ∈ x, DSpan.sml y
def markDSpanS : List DSpan → Int → List DSpan
  | [], _ => []
  | x :: xs, k => DSpan.mark x k :: markDSpanS xs (k + (DSpan.cnt x : Nat))
theorem markDSpanS_len : ∀ (x : List DSpan) (k : Int), (markDSpanS x k).length = x.length
  | [], _ => rfl
  | _ :: xs, k => by simp [markDSpanS, markDSpanS_len xs]
/-- How many marks the first i elements take. -/
def preDSpanS : List DSpan → Nat → Nat
  | [], _ => 0
  | _ :: _, 0 => 0
  | x :: xs, i + 1 => DSpan.cnt x + preDSpanS xs i
theorem markDSpanS_get : ∀ (x : List DSpan) (k : Int) (i : Nat) (y : DSpan), x[i]? = some y → (markDSpanS x k)[i]? = some (DSpan.mark y (k + (preDSpanS x i : Nat)))
  | [], _, i, y, h => by simp at h
  | x :: xs, k, 0, y, h => by simp at h; subst h; simp [markDSpanS, preDSpanS]
  | x :: xs, k, i + 1, y, h => by
    simp only [markDSpanS, List.getElem?_cons_succ]
    rw [markDSpanS_get xs _ i y (by simpa using h)]
    congr 2
    simp only [preDSpanS]
    omega
theorem preDSpanS_zero (x : List DSpan) : preDSpanS x 0 = 0 := by cases x <;> rfl
theorem preDSpanS_succ : ∀ (x : List DSpan) (i : Nat) (y : DSpan), x[i]? = some y → preDSpanS x (i + 1) = preDSpanS x i + DSpan.cnt y
  | [], i, y, h => by simp at h
  | x :: xs, 0, y, h => by simp at h; subst h; simp [preDSpanS, preDSpanS_zero]
  | x :: xs, i + 1, y, h => by
    simp only [preDSpanS]
    rw [preDSpanS_succ xs i y (by simpa using h)]
    omega
theorem preDSpanS_all : ∀ (x : List DSpan), preDSpanS x x.length = cntDSpanS x
  | [] => rfl
  | x :: xs => by simp only [List.length_cons, preDSpanS, cntDSpanS, preDSpanS_all xs]
theorem smlDSpanS_of {x : List DSpan} (h : szDSpanS x ≤ 1048576) : smlDSpanS x := ⟨h, fun _ _ => trivial⟩
theorem cntDSpanS_le : ∀ (x : List DSpan), cntDSpanS x ≤ 8 * szDSpanS x
  | [] => by simp [cntDSpanS]
  | x :: xs => by have := cntDSpanS_le xs; simp only [cntDSpanS, szDSpanS, List.length_cons, DSpan.cnt] at this ⊢; omega
theorem preDSpanS_le : ∀ (x : List DSpan) (i : Nat), preDSpanS x i ≤ cntDSpanS x
  | [], _ => by simp [preDSpanS]
  | x :: xs, 0 => by simp [preDSpanS]
  | x :: xs, i + 1 => by simp only [preDSpanS, cntDSpanS]; have := preDSpanS_le xs i; omega
/- DLarge -/
structure DLarge where
  Page : Int
  Pages : Int
  Size : Int
deriving DecidableEq, Inhabited
def DLarge.enc (o : Own) (x : DLarge) : List C := [I x.Page, I x.Pages, I x.Size]
theorem DLarge.enc_fz (x : DLarge) : fzL (DLarge.enc .own x) = DLarge.enc .imm x := by simp [fzL, DLarge.enc]
theorem DLarge.enc_fr (x : DLarge) : frL (DLarge.enc .own x) := ⟨trivial, trivial, trivial, trivial⟩
def DLarge.wf (x : DLarge) : Prop := wfI x.Page ∧ wfI x.Pages ∧ wfI x.Size
def DLarge.cnt (_ : DLarge) : Nat := 3
def DLarge.sml (_ : DLarge) : Prop := True
def DLarge.sz (_ : DLarge) : Nat := 0
theorem DLarge.sml_of {x : DLarge} (_ : DLarge.sz x ≤ 1048576) : DLarge.sml x := trivial
def DLarge.mark (_ : DLarge) (k : Int) : DLarge := ⟨k, k + 1, k + 1 + 1⟩
/- []DLarge -/
def rDLargeS (o : Own) (x : List DLarge) : List C := [.s o (x.map (DLarge.enc o))]
theorem rDLargeS_fz (x : List DLarge) : fzL (rDLargeS .own x) = rDLargeS .imm x := by simp [fzL, rDLargeS, DLarge.enc_fz, ← fzL_map, Function.comp_def]
theorem rDLargeS_fr (x : List DLarge) : frL (rDLargeS .own x) := ⟨⟨.inl fun h => (by cases h), frR_map _ _ fun y _ => DLarge.enc_fr y⟩, trivial⟩
def wfDLargeS (x : List DLarge) : Prop := x.length ≤ 9223372036854775807 ∧ ∀ y ∈ x, DLarge.wf y
def cntDLargeS : List DLarge → Nat
  | [] => 0
  | x :: xs => DLarge.cnt x + cntDLargeS xs
def szDLargeS (x : List DLarge) : Nat := x.length
def smlDLargeS (x : List DLarge) : Prop := x.length ≤ 1048576 ∧ ∀ y ∈ x, DLarge.sml y
def markDLargeS : List DLarge → Int → List DLarge
  | [], _ => []
  | x :: xs, k => DLarge.mark x k :: markDLargeS xs (k + (DLarge.cnt x : Nat))
theorem markDLargeS_len : ∀ (x : List DLarge) (k : Int), (markDLargeS x k).length = x.length
  | [], _ => rfl
  | _ :: xs, k => by simp [markDLargeS, markDLargeS_len xs]
/-- How many marks the first i elements take. -/
def preDLargeS : List DLarge → Nat → Nat
  | [], _ => 0
  | _ :: _, 0 => 0
  | x :: xs, i + 1 => DLarge.cnt x + preDLargeS xs i
theorem markDLargeS_get : ∀ (x : List DLarge) (k : Int) (i : Nat) (y : DLarge), x[i]? = some y → (markDLargeS x k)[i]? = some (DLarge.mark y (k + (preDLargeS x i : Nat)))
  | [], _, i, y, h => by simp at h
  | x :: xs, k, 0, y, h => by simp at h; subst h; simp [markDLargeS, preDLargeS]
  | x :: xs, k, i + 1, y, h => by
    simp only [markDLargeS, List.getElem?_cons_succ]
    rw [markDLargeS_get xs _ i y (by simpa using h)]
    congr 2
    simp only [preDLargeS]
    omega
theorem preDLargeS_zero (x : List DLarge) : preDLargeS x 0 = 0 := by cases x <;> rfl
theorem preDLargeS_succ : ∀ (x : List DLarge) (i : Nat) (y : DLarge), x[i]? = some y → preDLargeS x (i + 1) = preDLargeS x i + DLarge.cnt y
  | [], i, y, h => by simp at h
  | x :: xs, 0, y, h => by simp at h; subst h; simp [preDLargeS, preDLargeS_zero]
  | x :: xs, i + 1, y, h => by
    simp only [preDLargeS]
    rw [preDLargeS_succ xs i y (by simpa using h)]
    omega
theorem preDLargeS_all : ∀ (x : List DLarge), preDLargeS x x.length = cntDLargeS x
  | [] => rfl
  | x :: xs => by simp only [List.length_cons, preDLargeS, cntDLargeS, preDLargeS_all xs]
theorem smlDLargeS_of {x : List DLarge} (h : szDLargeS x ≤ 1048576) : smlDLargeS x := ⟨h, fun _ _ => trivial⟩
theorem cntDLargeS_le : ∀ (x : List DLarge), cntDLargeS x ≤ 8 * szDLargeS x
  | [] => by simp [cntDLargeS]
  | x :: xs => by have := cntDLargeS_le xs; simp only [cntDLargeS, szDLargeS, List.length_cons, DLarge.cnt] at this ⊢; omega
theorem preDLargeS_le : ∀ (x : List DLarge) (i : Nat), preDLargeS x i ≤ cntDLargeS x
  | [], _ => by simp [preDLargeS]
  | x :: xs, 0 => by simp [preDLargeS]
  | x :: xs, i + 1 => by simp only [preDLargeS, cntDLargeS]; have := preDLargeS_le xs i; omega
/- DObj -/
structure DObj where
  Id : Int
  Addr : Int
  Size : Int
  Thread : Int
deriving DecidableEq, Inhabited
def DObj.enc (o : Own) (x : DObj) : List C := [I x.Id, I x.Addr, I x.Size, I x.Thread]
theorem DObj.enc_fz (x : DObj) : fzL (DObj.enc .own x) = DObj.enc .imm x := by simp [fzL, DObj.enc]
theorem DObj.enc_fr (x : DObj) : frL (DObj.enc .own x) := ⟨trivial, trivial, trivial, trivial, trivial⟩
def DObj.wf (x : DObj) : Prop := wfI x.Id ∧ wfI x.Addr ∧ wfI x.Size ∧ wfI x.Thread
def DObj.cnt (_ : DObj) : Nat := 4
def DObj.sml (_ : DObj) : Prop := True
def DObj.sz (_ : DObj) : Nat := 0
theorem DObj.sml_of {x : DObj} (_ : DObj.sz x ≤ 1048576) : DObj.sml x := trivial
def DObj.mark (_ : DObj) (k : Int) : DObj := ⟨k, k + 1, k + 1 + 1, k + 1 + 1 + 1⟩
/- []DObj -/
def rDObjS (o : Own) (x : List DObj) : List C := [.s o (x.map (DObj.enc o))]
theorem rDObjS_fz (x : List DObj) : fzL (rDObjS .own x) = rDObjS .imm x := by simp [fzL, rDObjS, DObj.enc_fz, ← fzL_map, Function.comp_def]
theorem rDObjS_fr (x : List DObj) : frL (rDObjS .own x) := ⟨⟨.inl fun h => (by cases h), frR_map _ _ fun y _ => DObj.enc_fr y⟩, trivial⟩
def wfDObjS (x : List DObj) : Prop := x.length ≤ 9223372036854775807 ∧ ∀ y ∈ x, DObj.wf y
def cntDObjS : List DObj → Nat
  | [] => 0
  | x :: xs => DObj.cnt x + cntDObjS xs
def szDObjS (x : List DObj) : Nat := x.length
def smlDObjS (x : List DObj) : Prop := x.length ≤ 1048576 ∧ ∀ y ∈ x, DObj.sml y
def markDObjS : List DObj → Int → List DObj
  | [], _ => []
  | x :: xs, k => DObj.mark x k :: markDObjS xs (k + (DObj.cnt x : Nat))
theorem markDObjS_len : ∀ (x : List DObj) (k : Int), (markDObjS x k).length = x.length
  | [], _ => rfl
  | _ :: xs, k => by simp [markDObjS, markDObjS_len xs]
/-- How many marks the first i elements take. -/
def preDObjS : List DObj → Nat → Nat
  | [], _ => 0
  | _ :: _, 0 => 0
  | x :: xs, i + 1 => DObj.cnt x + preDObjS xs i
theorem markDObjS_get : ∀ (x : List DObj) (k : Int) (i : Nat) (y : DObj), x[i]? = some y → (markDObjS x k)[i]? = some (DObj.mark y (k + (preDObjS x i : Nat)))
  | [], _, i, y, h => by simp at h
  | x :: xs, k, 0, y, h => by simp at h; subst h; simp [markDObjS, preDObjS]
  | x :: xs, k, i + 1, y, h => by
    simp only [markDObjS, List.getElem?_cons_succ]
    rw [markDObjS_get xs _ i y (by simpa using h)]
    congr 2
    simp only [preDObjS]
    omega
theorem preDObjS_zero (x : List DObj) : preDObjS x 0 = 0 := by cases x <;> rfl
theorem preDObjS_succ : ∀ (x : List DObj) (i : Nat) (y : DObj), x[i]? = some y → preDObjS x (i + 1) = preDObjS x i + DObj.cnt y
  | [], i, y, h => by simp at h
  | x :: xs, 0, y, h => by simp at h; subst h; simp [preDObjS, preDObjS_zero]
  | x :: xs, i + 1, y, h => by
    simp only [preDObjS]
    rw [preDObjS_succ xs i y (by simpa using h)]
    omega
theorem preDObjS_all : ∀ (x : List DObj), preDObjS x x.length = cntDObjS x
  | [] => rfl
  | x :: xs => by simp only [List.length_cons, preDObjS, cntDObjS, preDObjS_all xs]
theorem smlDObjS_of {x : List DObj} (h : szDObjS x ≤ 1048576) : smlDObjS x := ⟨h, fun _ _ => trivial⟩
theorem cntDObjS_le : ∀ (x : List DObj), cntDObjS x ≤ 8 * szDObjS x
  | [] => by simp [cntDObjS]
  | x :: xs => by have := cntDObjS_le xs; simp only [cntDObjS, szDObjS, List.length_cons, DObj.cnt] at this ⊢; omega
theorem preDObjS_le : ∀ (x : List DObj) (i : Nat), preDObjS x i ≤ cntDObjS x
  | [], _ => by simp [preDObjS]
  | x :: xs, 0 => by simp [preDObjS]
  | x :: xs, i + 1 => by simp only [preDObjS, cntDObjS]; have := preDObjS_le xs i; omega
/- DCache -/
structure DCache where
  Lists : List (List Int)
deriving DecidableEq, Inhabited
def DCache.enc (o : Own) (x : DCache) : List C := [.s o (x.Lists.map (rIntS o))]
theorem DCache.enc_fz (x : DCache) : fzL (DCache.enc .own x) = DCache.enc .imm x := by simp [fzL, DCache.enc, rIntS_fz, ← fzL_map, Function.comp_def]
theorem DCache.enc_fr (x : DCache) : frL (DCache.enc .own x) := ⟨⟨.inl fun h => (by cases h), frR_map _ _ fun y _ => rIntS_fr y⟩, trivial⟩
def DCache.wf (x : DCache) : Prop := wfIntSS x.Lists
def DCache.cnt (x : DCache) : Nat := cntIntSS x.Lists
def DCache.sz (x : DCache) : Nat := szIntSS x.Lists
def DCache.sml (x : DCache) : Prop := smlIntSS x.Lists
theorem DCache.sml_of {x : DCache} (h : DCache.sz x ≤ 1048576) : DCache.sml x := smlIntSS_of (by unfold DCache.sz at h; omega)
theorem DCache.cnt_le (x : DCache) : DCache.cnt x ≤ 8 * DCache.sz x := by unfold DCache.cnt DCache.sz; have := cntIntSS_le x.Lists; omega
def DCache.mark (x : DCache) (k : Int) : DCache := { x with Lists := markIntSS x.Lists (k) }
/- []DCache -/
def rDCacheS (o : Own) (x : List DCache) : List C := [.s o (x.map (DCache.enc o))]
theorem rDCacheS_fz (x : List DCache) : fzL (rDCacheS .own x) = rDCacheS .imm x := by simp [fzL, rDCacheS, DCache.enc_fz, ← fzL_map, Function.comp_def]
theorem rDCacheS_fr (x : List DCache) : frL (rDCacheS .own x) := ⟨⟨.inl fun h => (by cases h), frR_map _ _ fun y _ => DCache.enc_fr y⟩, trivial⟩
def wfDCacheS (x : List DCache) : Prop := x.length ≤ 9223372036854775807 ∧ ∀ y ∈ x, DCache.wf y
def cntDCacheS : List DCache → Nat
  | [] => 0
  | x :: xs => DCache.cnt x + cntDCacheS xs
def szDCacheSE : List DCache → Nat
  | [] => 0
  | x :: xs => DCache.sz x + szDCacheSE xs
def szDCacheS (x : List DCache) : Nat := x.length + szDCacheSE x
def smlDCacheS (x : List DCache) : Prop := x.length ≤ 1048576 ∧ ∀ y ∈ x, DCache.sml y
def markDCacheS : List DCache → Int → List DCache
  | [], _ => []
  | x :: xs, k => DCache.mark x k :: markDCacheS xs (k + (DCache.cnt x : Nat))
theorem markDCacheS_len : ∀ (x : List DCache) (k : Int), (markDCacheS x k).length = x.length
  | [], _ => rfl
  | _ :: xs, k => by simp [markDCacheS, markDCacheS_len xs]
/-- How many marks the first i elements take. -/
def preDCacheS : List DCache → Nat → Nat
  | [], _ => 0
  | _ :: _, 0 => 0
  | x :: xs, i + 1 => DCache.cnt x + preDCacheS xs i
theorem markDCacheS_get : ∀ (x : List DCache) (k : Int) (i : Nat) (y : DCache), x[i]? = some y → (markDCacheS x k)[i]? = some (DCache.mark y (k + (preDCacheS x i : Nat)))
  | [], _, i, y, h => by simp at h
  | x :: xs, k, 0, y, h => by simp at h; subst h; simp [markDCacheS, preDCacheS]
  | x :: xs, k, i + 1, y, h => by
    simp only [markDCacheS, List.getElem?_cons_succ]
    rw [markDCacheS_get xs _ i y (by simpa using h)]
    congr 2
    simp only [preDCacheS]
    omega
theorem preDCacheS_zero (x : List DCache) : preDCacheS x 0 = 0 := by cases x <;> rfl
theorem preDCacheS_succ : ∀ (x : List DCache) (i : Nat) (y : DCache), x[i]? = some y → preDCacheS x (i + 1) = preDCacheS x i + DCache.cnt y
  | [], i, y, h => by simp at h
  | x :: xs, 0, y, h => by simp at h; subst h; simp [preDCacheS, preDCacheS_zero]
  | x :: xs, i + 1, y, h => by
    simp only [preDCacheS]
    rw [preDCacheS_succ xs i y (by simpa using h)]
    omega
theorem preDCacheS_all : ∀ (x : List DCache), preDCacheS x x.length = cntDCacheS x
  | [] => rfl
  | x :: xs => by simp only [List.length_cons, preDCacheS, cntDCacheS, preDCacheS_all xs]
theorem szDCacheSE_mem : ∀ {x : List DCache} {y : DCache}, y ∈ x → DCache.sz y ≤ szDCacheSE x
  | [], y, h => by simp at h
  | x :: xs, y, h => by
    simp only [szDCacheSE]
    rcases List.mem_cons.1 h with rfl | h
    · omega
    · have := szDCacheSE_mem h; omega
theorem smlDCacheS_of {x : List DCache} (h : szDCacheS x ≤ 1048576) : smlDCacheS x := ⟨by unfold szDCacheS at h; omega, fun y hy => DCache.sml_of (by have := szDCacheSE_mem hy; unfold szDCacheS at h; omega)⟩
theorem cntDCacheSE_le : ∀ (x : List DCache), cntDCacheS x ≤ 8 * szDCacheSE x
  | [] => by simp [cntDCacheS]
  | x :: xs => by have := cntDCacheSE_le xs; have := DCache.cnt_le x; simp only [cntDCacheS, szDCacheSE]; omega
theorem cntDCacheS_le (x : List DCache) : cntDCacheS x ≤ 8 * szDCacheS x := by have := cntDCacheSE_le x; unfold szDCacheS; omega
def spreDCacheS : List DCache → Nat → Nat
  | [], _ => 0
  | _ :: _, 0 => 0
  | x :: xs, i + 1 => DCache.sz x + spreDCacheS xs i
theorem spreDCacheS_zero (x : List DCache) : spreDCacheS x 0 = 0 := by cases x <;> rfl
theorem spreDCacheS_succ : ∀ (x : List DCache) (i : Nat) (y : DCache), x[i]? = some y → spreDCacheS x (i + 1) = spreDCacheS x i + DCache.sz y
  | [], i, y, h => by simp at h
  | x :: xs, 0, y, h => by simp at h; subst h; simp [spreDCacheS, spreDCacheS_zero]
  | x :: xs, i + 1, y, h => by
    simp only [spreDCacheS]
    rw [spreDCacheS_succ xs i y (by simpa using h)]
    omega
theorem spreDCacheS_all : ∀ (x : List DCache), spreDCacheS x x.length = szDCacheSE x
  | [] => rfl
  | x :: xs => by simp only [List.length_cons, spreDCacheS, szDCacheSE, spreDCacheS_all xs]
theorem spreDCacheS_le : ∀ (x : List DCache) (i : Nat), spreDCacheS x i ≤ szDCacheSE x
  | [], _ => by simp [spreDCacheS]
  | x :: xs, 0 => by simp [spreDCacheS]
  | x :: xs, i + 1 => by simp only [spreDCacheS, szDCacheSE]; have := spreDCacheS_le xs i; omega
theorem preDCacheS_le : ∀ (x : List DCache) (i : Nat), preDCacheS x i ≤ cntDCacheS x
  | [], _ => by simp [preDCacheS]
  | x :: xs, 0 => by simp [preDCacheS]
  | x :: xs, i + 1 => by simp only [preDCacheS, cntDCacheS]; have := preDCacheS_le xs i; omega
/- DPost -/
structure DPost where
  To : Int
  Addr : Int
deriving DecidableEq, Inhabited
def DPost.enc (o : Own) (x : DPost) : List C := [I x.To, I x.Addr]
theorem DPost.enc_fz (x : DPost) : fzL (DPost.enc .own x) = DPost.enc .imm x := by simp [fzL, DPost.enc]
theorem DPost.enc_fr (x : DPost) : frL (DPost.enc .own x) := ⟨trivial, trivial, trivial⟩
def DPost.wf (x : DPost) : Prop := wfI x.To ∧ wfI x.Addr
def DPost.cnt (_ : DPost) : Nat := 2
def DPost.sml (_ : DPost) : Prop := True
def DPost.sz (_ : DPost) : Nat := 0
theorem DPost.sml_of {x : DPost} (_ : DPost.sz x ≤ 1048576) : DPost.sml x := trivial
def DPost.mark (_ : DPost) (k : Int) : DPost := ⟨k, k + 1⟩
/- []DPost -/
def rDPostS (o : Own) (x : List DPost) : List C := [.s o (x.map (DPost.enc o))]
theorem rDPostS_fz (x : List DPost) : fzL (rDPostS .own x) = rDPostS .imm x := by simp [fzL, rDPostS, DPost.enc_fz, ← fzL_map, Function.comp_def]
theorem rDPostS_fr (x : List DPost) : frL (rDPostS .own x) := ⟨⟨.inl fun h => (by cases h), frR_map _ _ fun y _ => DPost.enc_fr y⟩, trivial⟩
def wfDPostS (x : List DPost) : Prop := x.length ≤ 9223372036854775807 ∧ ∀ y ∈ x, DPost.wf y
def cntDPostS : List DPost → Nat
  | [] => 0
  | x :: xs => DPost.cnt x + cntDPostS xs
def szDPostS (x : List DPost) : Nat := x.length
def smlDPostS (x : List DPost) : Prop := x.length ≤ 1048576 ∧ ∀ y ∈ x, DPost.sml y
def markDPostS : List DPost → Int → List DPost
  | [], _ => []
  | x :: xs, k => DPost.mark x k :: markDPostS xs (k + (DPost.cnt x : Nat))
theorem markDPostS_len : ∀ (x : List DPost) (k : Int), (markDPostS x k).length = x.length
  | [], _ => rfl
  | _ :: xs, k => by simp [markDPostS, markDPostS_len xs]
/-- How many marks the first i elements take. -/
def preDPostS : List DPost → Nat → Nat
  | [], _ => 0
  | _ :: _, 0 => 0
  | x :: xs, i + 1 => DPost.cnt x + preDPostS xs i
theorem markDPostS_get : ∀ (x : List DPost) (k : Int) (i : Nat) (y : DPost), x[i]? = some y → (markDPostS x k)[i]? = some (DPost.mark y (k + (preDPostS x i : Nat)))
  | [], _, i, y, h => by simp at h
  | x :: xs, k, 0, y, h => by simp at h; subst h; simp [markDPostS, preDPostS]
  | x :: xs, k, i + 1, y, h => by
    simp only [markDPostS, List.getElem?_cons_succ]
    rw [markDPostS_get xs _ i y (by simpa using h)]
    congr 2
    simp only [preDPostS]
    omega
theorem preDPostS_zero (x : List DPost) : preDPostS x 0 = 0 := by cases x <;> rfl
theorem preDPostS_succ : ∀ (x : List DPost) (i : Nat) (y : DPost), x[i]? = some y → preDPostS x (i + 1) = preDPostS x i + DPost.cnt y
  | [], i, y, h => by simp at h
  | x :: xs, 0, y, h => by simp at h; subst h; simp [preDPostS, preDPostS_zero]
  | x :: xs, i + 1, y, h => by
    simp only [preDPostS]
    rw [preDPostS_succ xs i y (by simpa using h)]
    omega
theorem preDPostS_all : ∀ (x : List DPost), preDPostS x x.length = cntDPostS x
  | [] => rfl
  | x :: xs => by simp only [List.length_cons, preDPostS, cntDPostS, preDPostS_all xs]
theorem smlDPostS_of {x : List DPost} (h : szDPostS x ≤ 1048576) : smlDPostS x := ⟨h, fun _ _ => trivial⟩
theorem cntDPostS_le : ∀ (x : List DPost), cntDPostS x ≤ 8 * szDPostS x
  | [] => by simp [cntDPostS]
  | x :: xs => by have := cntDPostS_le xs; simp only [cntDPostS, szDPostS, List.length_cons, DPost.cnt] at this ⊢; omega
theorem preDPostS_le : ∀ (x : List DPost) (i : Nat), preDPostS x i ≤ cntDPostS x
  | [], _ => by simp [preDPostS]
  | x :: xs, 0 => by simp [preDPostS]
  | x :: xs, i + 1 => by simp only [preDPostS, cntDPostS]; have := preDPostS_le xs i; omega
/- [][]DPost -/
def rDPostSS (o : Own) (x : List (List DPost)) : List C := [.s o (x.map (rDPostS o))]
theorem rDPostSS_fz (x : List (List DPost)) : fzL (rDPostSS .own x) = rDPostSS .imm x := by simp [fzL, rDPostSS, rDPostS_fz, ← fzL_map, Function.comp_def]
theorem rDPostSS_fr (x : List (List DPost)) : frL (rDPostSS .own x) := ⟨⟨.inl fun h => (by cases h), frR_map _ _ fun y _ => rDPostS_fr y⟩, trivial⟩
def wfDPostSS (x : List (List DPost)) : Prop := x.length ≤ 9223372036854775807 ∧ ∀ y ∈ x, wfDPostS y
def cntDPostSS : List (List DPost) → Nat
  | [] => 0
  | x :: xs => cntDPostS x + cntDPostSS xs
def szDPostSSE : List (List DPost) → Nat
  | [] => 0
  | x :: xs => szDPostS x + szDPostSSE xs
def szDPostSS (x : List (List DPost)) : Nat := x.length + szDPostSSE x
def smlDPostSS (x : List (List DPost)) : Prop := x.length ≤ 1048576 ∧ ∀ y ∈ x, smlDPostS y
def markDPostSS : List (List DPost) → Int → List (List DPost)
  | [], _ => []
  | x :: xs, k => markDPostS x k :: markDPostSS xs (k + (cntDPostS x : Nat))
theorem markDPostSS_len : ∀ (x : List (List DPost)) (k : Int), (markDPostSS x k).length = x.length
  | [], _ => rfl
  | _ :: xs, k => by simp [markDPostSS, markDPostSS_len xs]
/-- How many marks the first i elements take. -/
def preDPostSS : List (List DPost) → Nat → Nat
  | [], _ => 0
  | _ :: _, 0 => 0
  | x :: xs, i + 1 => cntDPostS x + preDPostSS xs i
theorem markDPostSS_get : ∀ (x : List (List DPost)) (k : Int) (i : Nat) (y : List DPost), x[i]? = some y → (markDPostSS x k)[i]? = some (markDPostS y (k + (preDPostSS x i : Nat)))
  | [], _, i, y, h => by simp at h
  | x :: xs, k, 0, y, h => by simp at h; subst h; simp [markDPostSS, preDPostSS]
  | x :: xs, k, i + 1, y, h => by
    simp only [markDPostSS, List.getElem?_cons_succ]
    rw [markDPostSS_get xs _ i y (by simpa using h)]
    congr 2
    simp only [preDPostSS]
    omega
theorem preDPostSS_zero (x : List (List DPost)) : preDPostSS x 0 = 0 := by cases x <;> rfl
theorem preDPostSS_succ : ∀ (x : List (List DPost)) (i : Nat) (y : List DPost), x[i]? = some y → preDPostSS x (i + 1) = preDPostSS x i + cntDPostS y
  | [], i, y, h => by simp at h
  | x :: xs, 0, y, h => by simp at h; subst h; simp [preDPostSS, preDPostSS_zero]
  | x :: xs, i + 1, y, h => by
    simp only [preDPostSS]
    rw [preDPostSS_succ xs i y (by simpa using h)]
    omega
theorem preDPostSS_all : ∀ (x : List (List DPost)), preDPostSS x x.length = cntDPostSS x
  | [] => rfl
  | x :: xs => by simp only [List.length_cons, preDPostSS, cntDPostSS, preDPostSS_all xs]
theorem szDPostSSE_mem : ∀ {x : List (List DPost)} {y : List DPost}, y ∈ x → szDPostS y ≤ szDPostSSE x
  | [], y, h => by simp at h
  | x :: xs, y, h => by
    simp only [szDPostSSE]
    rcases List.mem_cons.1 h with rfl | h
    · omega
    · have := szDPostSSE_mem h; omega
theorem smlDPostSS_of {x : List (List DPost)} (h : szDPostSS x ≤ 1048576) : smlDPostSS x := ⟨by unfold szDPostSS at h; omega, fun y hy => smlDPostS_of (by have := szDPostSSE_mem hy; unfold szDPostSS at h; omega)⟩
theorem cntDPostSSE_le : ∀ (x : List (List DPost)), cntDPostSS x ≤ 8 * szDPostSSE x
  | [] => by simp [cntDPostSS]
  | x :: xs => by have := cntDPostSSE_le xs; have := cntDPostS_le x; simp only [cntDPostSS, szDPostSSE]; omega
theorem cntDPostSS_le (x : List (List DPost)) : cntDPostSS x ≤ 8 * szDPostSS x := by have := cntDPostSSE_le x; unfold szDPostSS; omega
def spreDPostSS : List (List DPost) → Nat → Nat
  | [], _ => 0
  | _ :: _, 0 => 0
  | x :: xs, i + 1 => szDPostS x + spreDPostSS xs i
theorem spreDPostSS_zero (x : List (List DPost)) : spreDPostSS x 0 = 0 := by cases x <;> rfl
theorem spreDPostSS_succ : ∀ (x : List (List DPost)) (i : Nat) (y : List DPost), x[i]? = some y → spreDPostSS x (i + 1) = spreDPostSS x i + szDPostS y
  | [], i, y, h => by simp at h
  | x :: xs, 0, y, h => by simp at h; subst h; simp [spreDPostSS, spreDPostSS_zero]
  | x :: xs, i + 1, y, h => by
    simp only [spreDPostSS]
    rw [spreDPostSS_succ xs i y (by simpa using h)]
    omega
theorem spreDPostSS_all : ∀ (x : List (List DPost)), spreDPostSS x x.length = szDPostSSE x
  | [] => rfl
  | x :: xs => by simp only [List.length_cons, spreDPostSS, szDPostSSE, spreDPostSS_all xs]
theorem spreDPostSS_le : ∀ (x : List (List DPost)) (i : Nat), spreDPostSS x i ≤ szDPostSSE x
  | [], _ => by simp [spreDPostSS]
  | x :: xs, 0 => by simp [spreDPostSS]
  | x :: xs, i + 1 => by simp only [spreDPostSS, szDPostSSE]; have := spreDPostSS_le xs i; omega
theorem preDPostSS_le : ∀ (x : List (List DPost)) (i : Nat), preDPostSS x i ≤ cntDPostSS x
  | [], _ => by simp [preDPostSS]
  | x :: xs, 0 => by simp [preDPostSS]
  | x :: xs, i + 1 => by simp only [preDPostSS, cntDPostSS]; have := preDPostSS_le xs i; omega
/- DMail -/
structure DMail where
  Buffers : List (List DPost)
  Inbox : List (List Int)
deriving DecidableEq, Inhabited
def DMail.enc (o : Own) (x : DMail) : List C := [.s o (x.Buffers.map (rDPostS o)), .s o (x.Inbox.map (rIntS o))]
theorem DMail.enc_fz (x : DMail) : fzL (DMail.enc .own x) = DMail.enc .imm x := by simp [fzL, DMail.enc, rDPostS_fz, rIntS_fz, ← fzL_map, Function.comp_def]
theorem DMail.enc_fr (x : DMail) : frL (DMail.enc .own x) := ⟨⟨.inl fun h => (by cases h), frR_map _ _ fun y _ => rDPostS_fr y⟩, ⟨.inl fun h => (by cases h), frR_map _ _ fun y _ => rIntS_fr y⟩, trivial⟩
def DMail.wf (x : DMail) : Prop := wfDPostSS x.Buffers ∧ wfIntSS x.Inbox
def DMail.cnt (x : DMail) : Nat := cntDPostSS x.Buffers + cntIntSS x.Inbox
def DMail.sz (x : DMail) : Nat := szDPostSS x.Buffers + szIntSS x.Inbox
def DMail.sml (x : DMail) : Prop := smlDPostSS x.Buffers ∧ smlIntSS x.Inbox
theorem DMail.sml_of {x : DMail} (h : DMail.sz x ≤ 1048576) : DMail.sml x := ⟨smlDPostSS_of (by unfold DMail.sz at h; omega), smlIntSS_of (by unfold DMail.sz at h; omega)⟩
theorem DMail.cnt_le (x : DMail) : DMail.cnt x ≤ 8 * DMail.sz x := by unfold DMail.cnt DMail.sz; have := cntDPostSS_le x.Buffers; have := cntIntSS_le x.Inbox; omega
def DMail.mark (x : DMail) (k : Int) : DMail := { x with Buffers := markDPostSS x.Buffers (k), Inbox := markIntSS x.Inbox (k + (cntDPostSS x.Buffers : Nat)) }
/- DStale -/
structure DStale where
  Addr : Int
  Class : Int
  Since : Int
deriving DecidableEq, Inhabited
def DStale.enc (o : Own) (x : DStale) : List C := [I x.Addr, I x.Class, I x.Since]
theorem DStale.enc_fz (x : DStale) : fzL (DStale.enc .own x) = DStale.enc .imm x := by simp [fzL, DStale.enc]
theorem DStale.enc_fr (x : DStale) : frL (DStale.enc .own x) := ⟨trivial, trivial, trivial, trivial⟩
def DStale.wf (x : DStale) : Prop := wfI x.Addr ∧ wfI x.Class ∧ wfI x.Since
def DStale.cnt (_ : DStale) : Nat := 3
def DStale.sml (_ : DStale) : Prop := True
def DStale.sz (_ : DStale) : Nat := 0
theorem DStale.sml_of {x : DStale} (_ : DStale.sz x ≤ 1048576) : DStale.sml x := trivial
def DStale.mark (_ : DStale) (k : Int) : DStale := ⟨k, k + 1, k + 1 + 1⟩
/- []DStale -/
def rDStaleS (o : Own) (x : List DStale) : List C := [.s o (x.map (DStale.enc o))]
theorem rDStaleS_fz (x : List DStale) : fzL (rDStaleS .own x) = rDStaleS .imm x := by simp [fzL, rDStaleS, DStale.enc_fz, ← fzL_map, Function.comp_def]
theorem rDStaleS_fr (x : List DStale) : frL (rDStaleS .own x) := ⟨⟨.inl fun h => (by cases h), frR_map _ _ fun y _ => DStale.enc_fr y⟩, trivial⟩
def wfDStaleS (x : List DStale) : Prop := x.length ≤ 9223372036854775807 ∧ ∀ y ∈ x, DStale.wf y
def cntDStaleS : List DStale → Nat
  | [] => 0
  | x :: xs => DStale.cnt x + cntDStaleS xs
def szDStaleS (x : List DStale) : Nat := x.length
def smlDStaleS (x : List DStale) : Prop := x.length ≤ 1048576 ∧ ∀ y ∈ x, DStale.sml y
def markDStaleS : List DStale → Int → List DStale
  | [], _ => []
  | x :: xs, k => DStale.mark x k :: markDStaleS xs (k + (DStale.cnt x : Nat))
theorem markDStaleS_len : ∀ (x : List DStale) (k : Int), (markDStaleS x k).length = x.length
  | [], _ => rfl
  | _ :: xs, k => by simp [markDStaleS, markDStaleS_len xs]
/-- How many marks the first i elements take. -/
def preDStaleS : List DStale → Nat → Nat
  | [], _ => 0
  | _ :: _, 0 => 0
  | x :: xs, i + 1 => DStale.cnt x + preDStaleS xs i
theorem markDStaleS_get : ∀ (x : List DStale) (k : Int) (i : Nat) (y : DStale), x[i]? = some y → (markDStaleS x k)[i]? = some (DStale.mark y (k + (preDStaleS x i : Nat)))
  | [], _, i, y, h => by simp at h
  | x :: xs, k, 0, y, h => by simp at h; subst h; simp [markDStaleS, preDStaleS]
  | x :: xs, k, i + 1, y, h => by
    simp only [markDStaleS, List.getElem?_cons_succ]
    rw [markDStaleS_get xs _ i y (by simpa using h)]
    congr 2
    simp only [preDStaleS]
    omega
theorem preDStaleS_zero (x : List DStale) : preDStaleS x 0 = 0 := by cases x <;> rfl
theorem preDStaleS_succ : ∀ (x : List DStale) (i : Nat) (y : DStale), x[i]? = some y → preDStaleS x (i + 1) = preDStaleS x i + DStale.cnt y
  | [], i, y, h => by simp at h
  | x :: xs, 0, y, h => by simp at h; subst h; simp [preDStaleS, preDStaleS_zero]
  | x :: xs, i + 1, y, h => by
    simp only [preDStaleS]
    rw [preDStaleS_succ xs i y (by simpa using h)]
    omega
theorem preDStaleS_all : ∀ (x : List DStale), preDStaleS x x.length = cntDStaleS x
  | [] => rfl
  | x :: xs => by simp only [List.length_cons, preDStaleS, cntDStaleS, preDStaleS_all xs]
theorem smlDStaleS_of {x : List DStale} (h : szDStaleS x ≤ 1048576) : smlDStaleS x := ⟨h, fun _ _ => trivial⟩
theorem cntDStaleS_le : ∀ (x : List DStale), cntDStaleS x ≤ 8 * szDStaleS x
  | [] => by simp [cntDStaleS]
  | x :: xs => by have := cntDStaleS_le xs; simp only [cntDStaleS, szDStaleS, List.length_cons, DStale.cnt] at this ⊢; omega
theorem preDStaleS_le : ∀ (x : List DStale) (i : Nat), preDStaleS x i ≤ cntDStaleS x
  | [], _ => by simp [preDStaleS]
  | x :: xs, 0 => by simp [preDStaleS]
  | x :: xs, i + 1 => by simp only [preDStaleS, cntDStaleS]; have := preDStaleS_le xs i; omega
/- DQuar -/
structure DQuar where
  Room : Int
  Lst : List DStale
deriving DecidableEq, Inhabited
def DQuar.enc (o : Own) (x : DQuar) : List C := [I x.Room, .s o (x.Lst.map (DStale.enc o))]
theorem DQuar.enc_fz (x : DQuar) : fzL (DQuar.enc .own x) = DQuar.enc .imm x := by simp [fzL, DQuar.enc, DStale.enc_fz, ← fzL_map, Function.comp_def]
theorem DQuar.enc_fr (x : DQuar) : frL (DQuar.enc .own x) := ⟨trivial, ⟨.inl fun h => (by cases h), frR_map _ _ fun y _ => DStale.enc_fr y⟩, trivial⟩
def DQuar.wf (x : DQuar) : Prop := wfI x.Room ∧ wfDStaleS x.Lst
def DQuar.cnt (x : DQuar) : Nat := cntDStaleS x.Lst
def DQuar.sz (x : DQuar) : Nat := szDStaleS x.Lst
def DQuar.sml (x : DQuar) : Prop := smlDStaleS x.Lst
theorem DQuar.sml_of {x : DQuar} (h : DQuar.sz x ≤ 1048576) : DQuar.sml x := smlDStaleS_of (by unfold DQuar.sz at h; omega)
theorem DQuar.cnt_le (x : DQuar) : DQuar.cnt x ≤ 8 * DQuar.sz x := by unfold DQuar.cnt DQuar.sz; have := cntDStaleS_le x.Lst; omega
def DQuar.mark (x : DQuar) (k : Int) : DQuar := { x with Lst := markDStaleS x.Lst (k) }
/- DPlan -/
structure DPlan where
  Keep : Int
  Move : Int
  Cells : List Int
deriving DecidableEq, Inhabited
def DPlan.enc (o : Own) (x : DPlan) : List C := [I x.Keep, I x.Move, .s o (x.Cells.map (rI o))]
theorem DPlan.enc_fz (x : DPlan) : fzL (DPlan.enc .own x) = DPlan.enc .imm x := by simp [fzL, DPlan.enc, rI, ← fzL_map, Function.comp_def]
theorem DPlan.enc_fr (x : DPlan) : frL (DPlan.enc .own x) := ⟨trivial, trivial, ⟨.inl fun h => (by cases h), frR_map _ _ fun y _ => rI_fr y⟩, trivial⟩
def DPlan.wf (x : DPlan) : Prop := wfI x.Keep ∧ wfI x.Move ∧ wfIntS x.Cells
def DPlan.cnt (x : DPlan) : Nat := cntIntS x.Cells
def DPlan.sz (x : DPlan) : Nat := szIntS x.Cells
def DPlan.sml (x : DPlan) : Prop := smlIntS x.Cells
theorem DPlan.sml_of {x : DPlan} (h : DPlan.sz x ≤ 1048576) : DPlan.sml x := smlIntS_of (by unfold DPlan.sz at h; omega)
theorem DPlan.cnt_le (x : DPlan) : DPlan.cnt x ≤ 8 * DPlan.sz x := by unfold DPlan.cnt DPlan.sz; have := cntIntS_le x.Cells; omega
def DPlan.mark (x : DPlan) (k : Int) : DPlan := { x with Cells := markIntS x.Cells (k) }
/- DJob -/
structure DJob where
  Plan : DPlan
  Phase : Int
  Next : Int
deriving DecidableEq, Inhabited
def DJob.enc (o : Own) (x : DJob) : List C := [I x.Plan.Keep, I x.Plan.Move, .s o (x.Plan.Cells.map (rI o)), I x.Phase, I x.Next]
theorem DJob.enc_fz (x : DJob) : fzL (DJob.enc .own x) = DJob.enc .imm x := by simp [fzL, DJob.enc, rI, ← fzL_map, Function.comp_def]
theorem DJob.enc_fr (x : DJob) : frL (DJob.enc .own x) := ⟨trivial, trivial, ⟨.inl fun h => (by cases h), frR_map _ _ fun y _ => rI_fr y⟩, trivial, trivial, trivial⟩
def DJob.wf (x : DJob) : Prop := DPlan.wf x.Plan ∧ wfI x.Phase ∧ wfI x.Next
def DJob.cnt (x : DJob) : Nat := DPlan.cnt x.Plan
def DJob.sz (x : DJob) : Nat := DPlan.sz x.Plan
def DJob.sml (x : DJob) : Prop := DPlan.sml x.Plan
theorem DJob.sml_of {x : DJob} (h : DJob.sz x ≤ 1048576) : DJob.sml x := DPlan.sml_of (by unfold DJob.sz at h; omega)
theorem DJob.cnt_le (x : DJob) : DJob.cnt x ≤ 8 * DJob.sz x := by unfold DJob.cnt DJob.sz; have := DPlan.cnt_le x.Plan; omega
def DJob.mark (x : DJob) (k : Int) : DJob := { x with Plan := DPlan.mark x.Plan (k) }
/- DHeap -/
structure DHeap where
  Kernel : DKernel
  Free : List DRange
  Spans : List DSpan
  Larges : List DLarge
  Objs : List DObj
  Caches : List DCache
  Mail : DMail
  Quar : DQuar
  Seed : Int
  Clock : Int
  Limit : Int
  Next : Int
  Meshing : Bool
  Job : DJob
deriving DecidableEq, Inhabited
def DHeap.enc (o : Own) (x : DHeap) : List C := [.s o (x.Kernel.Machine.Frames.Cells.map (rIntS o)), .s o (x.Kernel.Machine.Frames.Used.map (rB o)), .s o (x.Kernel.Machine.Table.Entries.map (DEntry.enc o)), I x.Kernel.Calls, .s o (x.Kernel.Refuse.map (rI o)), .s o (x.Free.map (DRange.enc o)), .s o (x.Spans.map (DSpan.enc o)), .s o (x.Larges.map (DLarge.enc o)), .s o (x.Objs.map (DObj.enc o)), .s o (x.Caches.map (DCache.enc o)), .s o (x.Mail.Buffers.map (rDPostS o)), .s o (x.Mail.Inbox.map (rIntS o)), I x.Quar.Room, .s o (x.Quar.Lst.map (DStale.enc o)), I x.Seed, I x.Clock, I x.Limit, I x.Next, B x.Meshing, I x.Job.Plan.Keep, I x.Job.Plan.Move, .s o (x.Job.Plan.Cells.map (rI o)), I x.Job.Phase, I x.Job.Next]
theorem DHeap.enc_fz (x : DHeap) : fzL (DHeap.enc .own x) = DHeap.enc .imm x := by simp [fzL, DHeap.enc, DCache.enc_fz, DEntry.enc_fz, DLarge.enc_fz, DObj.enc_fz, DRange.enc_fz, DSpan.enc_fz, DStale.enc_fz, rB, rDPostS_fz, rI, rIntS_fz, ← fzL_map, Function.comp_def]
theorem DHeap.enc_fr (x : DHeap) : frL (DHeap.enc .own x) := ⟨⟨.inl fun h => (by cases h), frR_map _ _ fun y _ => rIntS_fr y⟩, ⟨.inl fun h => (by cases h), frR_map _ _ fun y _ => rB_fr y⟩, ⟨.inl fun h => (by cases h), frR_map _ _ fun y _ => DEntry.enc_fr y⟩, trivial, ⟨.inl fun h => (by cases h), frR_map _ _ fun y _ => rI_fr y⟩, ⟨.inl fun h => (by cases h), frR_map _ _ fun y _ => DRange.enc_fr y⟩, ⟨.inl fun h => (by cases h), frR_map _ _ fun y _ => DSpan.enc_fr y⟩, ⟨.inl fun h => (by cases h), frR_map _ _ fun y _ => DLarge.enc_fr y⟩, ⟨.inl fun h => (by cases h), frR_map _ _ fun y _ => DObj.enc_fr y⟩, ⟨.inl fun h => (by cases h), frR_map _ _ fun y _ => DCache.enc_fr y⟩, ⟨.inl fun h => (by cases h), frR_map _ _ fun y _ => rDPostS_fr y⟩, ⟨.inl fun h => (by cases h), frR_map _ _ fun y _ => rIntS_fr y⟩, trivial, ⟨.inl fun h => (by cases h), frR_map _ _ fun y _ => DStale.enc_fr y⟩, trivial, trivial, trivial, trivial, trivial, trivial, trivial, ⟨.inl fun h => (by cases h), frR_map _ _ fun y _ => rI_fr y⟩, trivial, trivial, trivial⟩
def DHeap.wf (x : DHeap) : Prop := DKernel.wf x.Kernel ∧ wfDRangeS x.Free ∧ wfDSpanS x.Spans ∧ wfDLargeS x.Larges ∧ wfDObjS x.Objs ∧ wfDCacheS x.Caches ∧ DMail.wf x.Mail ∧ DQuar.wf x.Quar ∧ wfI x.Seed ∧ wfI x.Clock ∧ wfI x.Limit ∧ wfI x.Next ∧ wfB x.Meshing ∧ DJob.wf x.Job
def DHeap.cnt (x : DHeap) : Nat := DKernel.cnt x.Kernel + cntDRangeS x.Free + cntDSpanS x.Spans + cntDLargeS x.Larges + cntDObjS x.Objs + cntDCacheS x.Caches + DMail.cnt x.Mail + DQuar.cnt x.Quar + DJob.cnt x.Job
def DHeap.sz (x : DHeap) : Nat := DKernel.sz x.Kernel + szDRangeS x.Free + szDSpanS x.Spans + szDLargeS x.Larges + szDObjS x.Objs + szDCacheS x.Caches + DMail.sz x.Mail + DQuar.sz x.Quar + DJob.sz x.Job
def DHeap.sml (x : DHeap) : Prop := DKernel.sml x.Kernel ∧ smlDRangeS x.Free ∧ smlDSpanS x.Spans ∧ smlDLargeS x.Larges ∧ smlDObjS x.Objs ∧ smlDCacheS x.Caches ∧ DMail.sml x.Mail ∧ DQuar.sml x.Quar ∧ DJob.sml x.Job
theorem DHeap.sml_of {x : DHeap} (h : DHeap.sz x ≤ 1048576) : DHeap.sml x := ⟨DKernel.sml_of (by unfold DHeap.sz at h; omega), smlDRangeS_of (by unfold DHeap.sz at h; omega), smlDSpanS_of (by unfold DHeap.sz at h; omega), smlDLargeS_of (by unfold DHeap.sz at h; omega), smlDObjS_of (by unfold DHeap.sz at h; omega), smlDCacheS_of (by unfold DHeap.sz at h; omega), DMail.sml_of (by unfold DHeap.sz at h; omega), DQuar.sml_of (by unfold DHeap.sz at h; omega), DJob.sml_of (by unfold DHeap.sz at h; omega)⟩
theorem DHeap.cnt_le (x : DHeap) : DHeap.cnt x ≤ 8 * DHeap.sz x := by unfold DHeap.cnt DHeap.sz; have := DKernel.cnt_le x.Kernel; have := cntDRangeS_le x.Free; have := cntDSpanS_le x.Spans; have := cntDLargeS_le x.Larges; have := cntDObjS_le x.Objs; have := cntDCacheS_le x.Caches; have := DMail.cnt_le x.Mail; have := DQuar.cnt_le x.Quar; have := DJob.cnt_le x.Job; omega
def DHeap.mark (x : DHeap) (k : Int) : DHeap := { x with Kernel := DKernel.mark x.Kernel (k), Free := markDRangeS x.Free (k + (DKernel.cnt x.Kernel : Nat)), Spans := markDSpanS x.Spans (k + (DKernel.cnt x.Kernel : Nat) + (cntDRangeS x.Free : Nat)), Larges := markDLargeS x.Larges (k + (DKernel.cnt x.Kernel : Nat) + (cntDRangeS x.Free : Nat) + (cntDSpanS x.Spans : Nat)), Objs := markDObjS x.Objs (k + (DKernel.cnt x.Kernel : Nat) + (cntDRangeS x.Free : Nat) + (cntDSpanS x.Spans : Nat) + (cntDLargeS x.Larges : Nat)), Caches := markDCacheS x.Caches (k + (DKernel.cnt x.Kernel : Nat) + (cntDRangeS x.Free : Nat) + (cntDSpanS x.Spans : Nat) + (cntDLargeS x.Larges : Nat) + (cntDObjS x.Objs : Nat)), Mail := DMail.mark x.Mail (k + (DKernel.cnt x.Kernel : Nat) + (cntDRangeS x.Free : Nat) + (cntDSpanS x.Spans : Nat) + (cntDLargeS x.Larges : Nat) + (cntDObjS x.Objs : Nat) + (cntDCacheS x.Caches : Nat)), Quar := DQuar.mark x.Quar (k + (DKernel.cnt x.Kernel : Nat) + (cntDRangeS x.Free : Nat) + (cntDSpanS x.Spans : Nat) + (cntDLargeS x.Larges : Nat) + (cntDObjS x.Objs : Nat) + (cntDCacheS x.Caches : Nat) + (DMail.cnt x.Mail : Nat)), Job := DJob.mark x.Job (k + (DKernel.cnt x.Kernel : Nat) + (cntDRangeS x.Free : Nat) + (cntDSpanS x.Spans : Nat) + (cntDLargeS x.Larges : Nat) + (cntDObjS x.Objs : Nat) + (cntDCacheS x.Caches : Nat) + (DMail.cnt x.Mail : Nat) + (DQuar.cnt x.Quar : Nat)) }
end Go.Proofs.YthinjmmlpgjhnaaGreat.Ab
