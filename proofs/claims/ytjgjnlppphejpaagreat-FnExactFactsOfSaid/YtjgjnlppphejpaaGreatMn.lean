/- The cells of an object, the reference's and the program's. No condition. -/
import Derived.Test.YtjgjnlppphejpaaGreatMk
import Derived.Test.YtjgjnlppphejpaaGreatMd

namespace Go.Proofs.YtjgjnlppphejpaaGreat.Ab
open Go.RowKit
set_option maxRecDepth 20000
set_option maxHeartbeats 4000000
/-- What lies at an address. -/
def cellOf (k : DKernel) (a : Int) : Int := nth (nth k.Machine.Frames.Cells (pageEntry k.Machine.Table (a / 16)).Frame.toNat) (a % 16).toNat
/-- What lies at n addresses from a on. -/
def cellsOf (k : DKernel) (a : Int) (n : Nat) : List Int := (List.range n).map fun (i : Nat) => cellOf k (a + i)
theorem cellsOf_len (k : DKernel) (a : Int) (n : Nat) : (cellsOf k a n).length = n := by simp [cellsOf]
theorem cellsOf_succ (k : DKernel) (a : Int) (n : Nat) : cellsOf k a (n + 1) = cellsOf k a n ++ [cellOf k (a + n)] := by
  unfold cellsOf; rw [List.range_succ, List.map_append]; rfl
theorem cellsOf_get (k : DKernel) (a : Int) {n i : Nat} (hi : i < n) : (cellsOf k a n)[i]? = some (cellOf k (a + i)) := by
  unfold cellsOf; rw [List.getElem?_map, List.getElem?_range hi]; rfl
/-- The frame of a page, and the row in it. -/
theorem frame_in {k : DKernel} (hk : kernelOk k = true) (p : Int) : 0 ≤ (pageEntry k.Machine.Table p).Frame ∧ (pageEntry k.Machine.Table p).Frame < k.Machine.Frames.Cells.length := by
  obtain ⟨-, h2, h3, -⟩ := kernelOk_iff.1 hk
  obtain ⟨g1, g2, g3, g4⟩ := framesOk_iff.1 h2
  unfold pageEntry
  split
  · rename_i hp
    have := (tableOk_iff.1 h3).1 p.toNat (by omega)
    unfold entOk at this
    rw [decide_eq_true_eq] at this
    by_cases hm : (nth k.Machine.Table.Entries p.toNat).Mode = 0
    · have := this.2.2.1 hm; omega
    · have := this.2.2.2 hm; omega
  · simp only; omega
theorem row_ok {k : DKernel} (hk : kernelOk k = true) {j : Nat} (hj : j < k.Machine.Frames.Cells.length) : (nth k.Machine.Frames.Cells j).length = 16 ∧ ∀ i, i < 16 → 0 ≤ nth (nth k.Machine.Frames.Cells j) i ∧ nth (nth k.Machine.Frames.Cells j) i ≤ 999 := by
  obtain ⟨-, h2, -⟩ := kernelOk_iff.1 hk
  obtain ⟨g1, g2, g3, g4⟩ := framesOk_iff.1 h2
  have := g4 j hj
  unfold rowOk at this
  rw [Bool.and_eq_true, decide_eq_true_eq, List.all_eq_true] at this
  refine ⟨this.1, fun i hi => ?_⟩
  have h := this.2 _ (nth_mem (xs := nth k.Machine.Frames.Cells j) (i := i) (by omega))
  unfold celOk at h
  rw [Bool.and_eq_true, decide_eq_true_eq] at h
  exact h.1
theorem cellOf_bd {k : DKernel} (hk : kernelOk k = true) (a : Int) : 0 ≤ cellOf k a ∧ cellOf k a ≤ 999 := by
  obtain ⟨f0, f1⟩ := frame_in hk (a / 16)
  exact (row_ok hk (j := (pageEntry k.Machine.Table (a / 16)).Frame.toNat) (by omega)).2 (a % 16).toNat (by omega)
theorem l31Cells_spec (h : DHeap) (o : DObj) (hk : kernelOk h.Kernel = true) (ha : 0 ≤ o.Addr ∧ o.Addr ≤ 1000000) (hn : o.Size ≤ 1000000) :
    CallsA Tryz.prog 91 false [.ptr (DHeap.enc .imm h), .val (some 4) (DObj.enc .imm o)] .one (rIntS .own (cellsOf h.Kernel o.Addr o.Size.toNat)) := by
  have hs := kernelOk_sml hk
  refine fnOk (n := 48) (mo := []) (tb := []) Tryz.func91 (by kernel_rfl) rfl (by kernel_rfl) (by rfl) (.inr (rIntS_fr _)) ?_
  repeat' ((conv => whnf); first | with_reducible (first | refine Ln.mk (List.length_map ..) ?_ | refine Wr.mk (wrapI (by omega) (by omega)) ?_ | refine Bf.not ?_ | refine Fin_.mk rfl ?_) | refine Bf.t rfl ?_ | refine Bf.f rfl ?_)
  (conv => whnf)
  refine Lp.mk (ι := Nat) (fun i => [(0, .iref (DHeap.enc .imm h) 0), (3, .hold .box (DObj.enc .imm o)), (5, .hold .one (rIntS .own (cellsOf h.Kernel o.Addr i))), (6, .hold .one [I ((i : Nat) : Int)])]) (fun i => i ≤ o.Size.toNat) (fun i => o.Size.toNat - i) (0) ?_ (Nat.zero_le _) fun i hi => ?_
  · repeat' (first | exact trivial | rfl | refine And.intro ?_ ?_ | (exact wkI (by first | omega | (simp only; omega) | (simp; omega))))
  have hcl := cellsOf_len h.Kernel o.Addr i
  by_cases li : i < o.Size.toNat
  · obtain ⟨f0, f1⟩ := frame_in hk ((o.Addr + i) / 16)
    have hx := get_nth (xs := h.Kernel.Machine.Frames.Cells) (i := (pageEntry h.Kernel.Machine.Table ((o.Addr + i) / 16)).Frame.toNat) (by omega)
    have h16 := (row_ok hk (j := (pageEntry h.Kernel.Machine.Table ((o.Addr + i) / 16)).Frame.toNat) (by omega)).1
    have hy := get_nth (xs := nth h.Kernel.Machine.Frames.Cells (pageEntry h.Kernel.Machine.Table ((o.Addr + i) / 16)).Frame.toNat) (i := ((o.Addr + i) % 16).toNat) (by omega)
    have q1 : IntKind.i64.wrap ((o.Addr + (i : Int)).tdiv 16) = (o.Addr + i) / 16 := by rw [tdiv_pos (by omega)]; exact wrapI (by omega) (by omega)
    have q2 : (o.Addr + (i : Int)).tmod 16 = (o.Addr + i) % 16 := tmod_pos (by omega)
    repeat' ((conv => whnf); first | with_reducible (first | refine Ln.mk (List.length_map ..) ?_ | refine Wr.mk (wrapI (by omega) (by omega)) ?_ | refine Bf.D (fun hq => ?_) (fun hq => absurd hq (by omega)) | refine Bf.not ?_ | refine Fin_.mk rfl ?_) | refine Bf.t rfl ?_ | refine Bf.f rfl ?_ | refine Cd.mk (by decide) ?_ | refine Wr.mk q1 ?_ | refine Ev.mk q2 ?_ | refine Cl.mk (PageEntry_spec h.Kernel.Machine.Table _ hs.1.2) ?_ | refine Ix.mk f0 (get_map hx) ?_ | refine Ix.mk (by omega) (get_map hy) ?_ | refine Ap.sn rowI_one rfl (by simp; omega) (by decide) rfl ?_)
    (conv => whnf)
    refine Nx.mk (i + 1) (by omega) (by omega) ?_
    rw [cellsOf_succ]
    (repeat' (first | exact trivial | rfl | exact And.intro rfl (And.intro (congrArg (C.s Own.own) (by simp [rI, cellOf])) trivial) | refine And.intro ?_ ?_))
  · repeat' ((conv => whnf); first | with_reducible (first | refine Ln.mk (List.length_map ..) ?_ | refine Wr.mk (wrapI (by omega) (by omega)) ?_ | refine Bf.D (fun hq => absurd hq (by omega)) (fun hq => ?_) | refine Bf.not ?_ | refine Fin_.mk rfl ?_) | refine Bf.t rfl ?_ | refine Bf.f rfl ?_)
    obtain rfl : i = o.Size.toNat := by omega
    rfl
theorem cellsAt_impl (h : DHeap) (a n : Int) (hk : kernelOk h.Kernel = true) (ha : 0 ≤ a ∧ a ≤ 1000000) (hn : n ≤ 1000000) :
    CallsA Tryz.prog 92 false [.val (some 24) (DHeap.enc .imm h), .val none [I a], .val none [I n]] .one (rIntS .own (cellsOf h.Kernel a n.toNat)) := by
  have hs := kernelOk_sml hk
  refine fnOk (n := 44) (mo := []) (tb := []) Tryz.func92 (by kernel_rfl) rfl (by kernel_rfl) (by rfl) (.inr (rIntS_fr _)) ?_
  repeat' ((conv => whnf); first | with_reducible (first | refine Ln.mk (List.length_map ..) ?_ | refine Wr.mk (wrapI (by omega) (by omega)) ?_ | refine Bf.not ?_ | refine Fin_.mk rfl ?_) | refine Bf.t rfl ?_ | refine Bf.f rfl ?_)
  (conv => whnf)
  refine Lp.mk (ι := Nat) (fun i => [(1, .hold .one [I (a)]), (2, .hold .one [I (n)]), (3, .hold .box (DHeap.enc .imm h)), (7, .hold .one (rIntS .own (cellsOf h.Kernel a i))), (8, .hold .one [I ((i : Nat) : Int)])]) (fun i => i ≤ n.toNat) (fun i => n.toNat - i) (0) ?_ (Nat.zero_le _) fun i hi => ?_
  · repeat' (first | exact trivial | rfl | refine And.intro ?_ ?_ | (exact wkI (by first | omega | (simp only; omega) | (simp; omega))))
  have hcl := cellsOf_len h.Kernel a i
  by_cases li : i < n.toNat
  · obtain ⟨f0, f1⟩ := frame_in hk ((a + i) / 16)
    have hx := get_nth (xs := h.Kernel.Machine.Frames.Cells) (i := (pageEntry h.Kernel.Machine.Table ((a + i) / 16)).Frame.toNat) (by omega)
    have h16 := (row_ok hk (j := (pageEntry h.Kernel.Machine.Table ((a + i) / 16)).Frame.toNat) (by omega)).1
    have hy := get_nth (xs := nth h.Kernel.Machine.Frames.Cells (pageEntry h.Kernel.Machine.Table ((a + i) / 16)).Frame.toNat) (i := ((a + i) % 16).toNat) (by omega)
    have q1 : IntKind.i64.wrap ((a + (i : Int)).tdiv 16) = (a + i) / 16 := by rw [tdiv_pos (by omega)]; exact wrapI (by omega) (by omega)
    have q2 : (a + (i : Int)).tmod 16 = (a + i) % 16 := tmod_pos (by omega)
    repeat' ((conv => whnf); first | with_reducible (first | refine Ln.mk (List.length_map ..) ?_ | refine Wr.mk (wrapI (by omega) (by omega)) ?_ | refine Bf.D (fun hq => ?_) (fun hq => absurd hq (by omega)) | refine Bf.not ?_ | refine Fin_.mk rfl ?_) | refine Bf.t rfl ?_ | refine Bf.f rfl ?_ | refine Cd.mk (by decide) ?_ | refine Wr.mk q1 ?_ | refine Ev.mk q2 ?_ | refine Cl.mk (PageEntry_impl h.Kernel.Machine.Table _ hs.1.2) ?_ | refine Ix.mk f0 (get_map hx) ?_ | refine Ix.mk (by omega) (get_map hy) ?_ | refine Ap.sn rowI_one rfl (by simp; omega) (by decide) rfl ?_)
    (conv => whnf)
    refine Nx.mk (i + 1) (by omega) (by omega) ?_
    rw [cellsOf_succ]
    (repeat' (first | exact trivial | rfl | exact And.intro rfl (And.intro (congrArg (C.s Own.own) (by simp [rI, cellOf])) trivial) | refine And.intro ?_ ?_))
  · repeat' ((conv => whnf); first | with_reducible (first | refine Ln.mk (List.length_map ..) ?_ | refine Wr.mk (wrapI (by omega) (by omega)) ?_ | refine Bf.D (fun hq => absurd hq (by omega)) (fun hq => ?_) | refine Bf.not ?_ | refine Fin_.mk rfl ?_) | refine Bf.t rfl ?_ | refine Bf.f rfl ?_)
    obtain rfl : i = n.toNat := by omega
    rfl
end Go.Proofs.YtjgjnlppphejpaaGreat.Ab
/- What is known of the objects of a valid heap, and the facts that are told of them, as plain functions. No condition. -/
namespace Go.Proofs.YtjgjnlppphejpaaGreat.Ab
/-- Whom an address belongs to that is a live slot's or a large object's. -/
theorem denotes_live {sp : List DSpan} {la : List DLarge} {a : Int} (h : (denotes sp la a).Kind = 1) : ∃ i : Nat, i < sp.length ∧ (denotes sp la a).Index = i ∧ slotIn (nth sp i) a = true ∧ denotes sp la a = ownS i (nth sp i) a := by
  unfold denotes at h ⊢
  cases e : sp.findIdx? (slotIn · a) with
  | some i =>
    obtain ⟨hi, hp, -⟩ := List.findIdx?_eq_some_iff_getElem.1 e
    refine ⟨i, hi, rfl, ?_, rfl⟩
    rw [nth_of (List.getElem?_eq_getElem hi)]; exact hp
  | none =>
    rw [e] at h
    simp only at h
    cases e2 : la.findIdx? (largeHas · a) with
    | some i => rw [e2] at h; simp at h
    | none => rw [e2] at h; simp at h
theorem denotes_lrg {sp : List DSpan} {la : List DLarge} {a : Int} (h : (denotes sp la a).Kind = 3) : ∃ i : Nat, i < la.length ∧ (denotes sp la a).Index = i ∧ largeHas (nth la i) a = true ∧ denotes sp la a = ⟨3, i, 0, a - 16 * (nth la i).Page⟩ := by
  unfold denotes at h ⊢
  cases e : sp.findIdx? (slotIn · a) with
  | some i =>
    rw [e] at h
    simp only [ownS] at h
    split at h <;> simp at h
  | none =>
    rw [e] at h
    simp only at h ⊢
    cases e2 : la.findIdx? (largeHas · a) with
    | some i =>
      obtain ⟨hi, hp, -⟩ := List.findIdx?_eq_some_iff_getElem.1 e2
      refine ⟨i, hi, rfl, ?_, rfl⟩
      rw [nth_of (List.getElem?_eq_getElem hi)]; exact hp
    | none => rw [e2] at h; simp at h
theorem classOf_bd {n : Int} (h : 0 ≤ classOf n) : 1 ≤ n ∧ n ≤ 8 := by
  unfold classOf at h
  split at h
  · omega
  · split at h
    · omega
    · split at h
      · omega
      · split at h
        · omega
        · split at h <;> omega
theorem owns_bd {h : DHeap} {o : DObj} (ho : ownsObj h o = true) : 0 ≤ o.Addr ∧ o.Addr ≤ 2000 ∧ 1 ≤ o.Size ∧ o.Size ≤ 1000 := by
  unfold ownsObj at ho
  simp only [Bool.and_eq_true, Bool.or_eq_true, decide_eq_true_eq] at ho
  obtain ⟨-, ⟨hk, hc⟩ | ⟨hk, hc⟩⟩ := ho
  · obtain ⟨i, hi, hix, hs, -⟩ := denotes_live hk
    rw [hix, Int.toNat_natCast] at hc
    unfold slotIn spanOk at hs
    simp only [Bool.and_eq_true, decide_eq_true_eq] at hs
    have := classOf_bd (n := o.Size) (by omega)
    omega
  · obtain ⟨i, hi, hix, hs, -⟩ := denotes_lrg hk
    rw [hix, Int.toNat_natCast] at hc
    unfold largeHas largeOk at hs
    simp only [Bool.and_eq_true, decide_eq_true_eq] at hs
    omega
theorem heapS_nums {h : DHeap} (hh : heapS h = true) : numsOk h = true ∧ objsAll h = true := by
  unfold heapS at hh
  simp only [Bool.and_eq_true] at hh
  exact ⟨hh.1.1.2, hh.1.2.1⟩
theorem next_bd {h : DHeap} (hh : heapS h = true) : 1 ≤ h.Next ∧ h.Next ≤ 1000000 := by
  have := (heapS_nums hh).1
  unfold numsOk at this
  rw [decide_eq_true_eq] at this
  omega
theorem obj_bd {h : DHeap} (hh : heapS h = true) {i : Nat} (hi : i < h.Objs.length) : 1 ≤ (nth h.Objs i).Id ∧ (nth h.Objs i).Id < h.Next ∧ 0 ≤ (nth h.Objs i).Addr ∧ (nth h.Objs i).Addr ≤ 2000 ∧ 1 ≤ (nth h.Objs i).Size ∧ (nth h.Objs i).Size ≤ 1000 ∧ ∀ j, j < i → (nth h.Objs j).Id ≠ (nth h.Objs i).Id := by
  obtain ⟨-, ho⟩ := heapS_nums hh
  obtain ⟨n1, n2⟩ := next_bd hh
  have h1 := allN_at ho hi
  rw [wrapI (by omega) (by omega)] at h1
  unfold objAt objNums at h1
  simp only [Bool.and_eq_true, decide_eq_true_eq, Bool.not_eq_true'] at h1
  obtain ⟨⟨h2, h3⟩, h4⟩ := h1
  have h5 := owns_bd h4
  refine ⟨h2.2.1, by omega, h5.1, h5.2.1, h5.2.2.1, h5.2.2.2, fun j hj e => ?_⟩
  rw [List.any_eq_false] at h3
  refine h3 (nth h.Objs j) ?_ (by unfold sameId; exact decide_eq_true e)
  have : (h.Objs.take i)[j]? = some (nth h.Objs j) := by rw [List.getElem?_take, if_pos hj, get_nth (by omega)]
  exact List.mem_of_getElem? this
theorem obj_ne {h : DHeap} (hh : heapS h = true) {i j : Nat} (hi : i < h.Objs.length) (hj : j < h.Objs.length) (hne : i ≠ j) : (nth h.Objs i).Id ≠ (nth h.Objs j).Id := by
  rcases Nat.lt_or_ge i j with h1 | h1
  · exact (obj_bd hh hj).2.2.2.2.2.2 i h1
  · exact fun e => (obj_bd hh hi).2.2.2.2.2.2 j (by omega) e.symm
/-- The sum over the first n cells. -/
def sumN (cs : List Int) : Nat → Int
  | 0 => 0
  | n + 1 => (sumN cs n + (n + 1) * nth cs n) % 9973
theorem sumN_bd (cs : List Int) : ∀ n, 0 ≤ sumN cs n ∧ sumN cs n ≤ 9972
  | 0 => by simp [sumN]
  | n + 1 => by simp only [sumN]; omega
def factOf (k : DKernel) (o : DObj) : DFact := ⟨o.Id, o.Size, sumN (cellsOf k o.Addr o.Size.toNat) o.Size.toNat⟩
/-- The facts of the objects whose number is below n, by their numbers. -/
def factsTo (h : DHeap) : Nat → List DFact
  | 0 => []
  | n + 1 => factsTo h n ++ (h.Objs.filter (sameId n)).map (factOf h.Kernel)
theorem factsTo_mem {h : DHeap} {x : DFact} : ∀ {n : Nat}, x ∈ factsTo h n ↔ ∃ o ∈ h.Objs, (∃ m : Nat, m < n ∧ o.Id = m) ∧ factOf h.Kernel o = x
  | 0 => by simp [factsTo]
  | n + 1 => by
    rw [factsTo, List.mem_append, factsTo_mem, List.mem_map]
    simp only [List.mem_filter, sameId, decide_eq_true_eq]
    constructor
    · rintro (⟨o, h1, ⟨m, h2, h3⟩, h4⟩ | ⟨o, ⟨h1, h2⟩, h3⟩)
      · exact ⟨o, h1, ⟨m, by omega, h3⟩, h4⟩
      · exact ⟨o, h1, ⟨n, by omega, h2⟩, h3⟩
    · rintro ⟨o, h1, ⟨m, h2, h3⟩, h4⟩
      rcases Nat.lt_or_ge m n with h5 | h5
      · exact .inl ⟨o, h1, ⟨m, h5, h3⟩, h4⟩
      · obtain rfl : m = n := by omega
        exact .inr ⟨o, ⟨h1, h3⟩, h4⟩
theorem obj_pos {h : DHeap} (hh : heapS h = true) : ∀ o ∈ h.Objs, 1 ≤ o.Id ∧ o.Id < h.Next := fun o ho => by
  obtain ⟨j, hj⟩ := List.mem_iff_getElem?.1 ho
  have := obj_bd hh (List.getElem?_eq_some_iff.1 hj).1
  rw [nth_of hj] at this
  exact ⟨this.1, this.2.1⟩
theorem filter_split (n : Nat) : ∀ (l : List DObj), (l.filter fun o : DObj => decide (o.Id < ((n + 1 : Nat) : Int))).length = (l.filter fun o : DObj => decide (o.Id < (n : Int))).length + (l.filter (sameId n)).length
  | [] => rfl
  | o :: l => by
    have ih := filter_split n l
    simp only [List.filter_cons]
    rcases Int.lt_trichotomy o.Id n with h | h | h
    · rw [if_pos (by simp; omega), if_pos (by simp; omega), if_neg (by simp [sameId]; omega)]
      simp only [List.length_cons]; omega
    · rw [if_pos (by simp; omega), if_neg (by simp; omega), if_pos (by simp [sameId]; omega)]
      simp only [List.length_cons]; omega
    · rw [if_neg (by simp; omega), if_neg (by simp; omega), if_neg (by simp [sameId]; omega)]
      exact ih
theorem factsTo_len {h : DHeap} (hp : ∀ o ∈ h.Objs, 0 ≤ o.Id) : ∀ n : Nat, (factsTo h n).length = (h.Objs.filter fun o : DObj => decide (o.Id < (n : Int))).length
  | 0 => by
    rw [List.filter_eq_nil_iff.2 (fun o ho => by have := hp o ho; simp; omega)]; rfl
  | n + 1 => by
    rw [factsTo, List.length_append, List.length_map, factsTo_len hp n, filter_split]
theorem factsTo_le {h : DHeap} (hp : ∀ o ∈ h.Objs, 0 ≤ o.Id) (n : Nat) : (factsTo h n).length ≤ h.Objs.length := by
  rw [factsTo_len hp]; exact List.length_filter_le ..
theorem factsTo_more {h : DHeap} {n : Nat} (hf : ∀ o ∈ h.Objs, o.Id < n) : ∀ m : Nat, factsTo h (n + m) = factsTo h n
  | 0 => rfl
  | m + 1 => by
    rw [← Nat.add_assoc, factsTo, factsTo_more hf m, List.filter_eq_nil_iff.2 (fun o ho => by have := hf o ho; simp [sameId]; omega)]
    simp
/-- The facts of a heap. -/
def factsOf (h : DHeap) : List DFact := if heapS h then factsTo h h.Next.toNat else []
theorem factsOf_done {h : DHeap} (hh : heapS h = true) {n : Nat} (hn : n ≤ h.Next) (hd : h.Objs.length ≤ (factsTo h n).length ∨ h.Next ≤ n) : factsTo h n = factsOf h := by
  have hp := obj_pos hh
  have hnx := next_bd hh
  have hf : ∀ o ∈ h.Objs, o.Id < n := by
    rcases hd with hd | hd
    · rw [factsTo_len (fun o ho => by have := hp o ho; omega)] at hd
      have h1 : (h.Objs.filter fun o : DObj => decide (o.Id < (n : Int))).length = h.Objs.length := Nat.le_antisymm (List.length_filter_le ..) hd
      have h2 := List.length_filter_eq_length_iff.1 h1
      exact fun o ho => by have := h2 o ho; simpa using this
    · exact fun o ho => by have := hp o ho; omega
  unfold factsOf
  rw [if_pos hh]
  obtain ⟨m, hm⟩ : ∃ m, h.Next.toNat = n + m := ⟨h.Next.toNat - n, by omega⟩
  rw [hm, factsTo_more hf]
theorem factsTo_one {h : DHeap} (hh : heapS h = true) : factsTo h 1 = [] := by
  have hp := obj_pos hh
  rw [factsTo, factsTo, List.filter_eq_nil_iff.2 (fun o ho => by have := hp o ho; simp [sameId]; omega)]
  rfl
theorem factsOf_len {h : DHeap} (hh : heapS h = true) : (factsOf h).length = h.Objs.length := by
  have hp := obj_pos hh
  unfold factsOf
  rw [if_pos hh, factsTo_len (fun o ho => by have := hp o ho; omega), List.length_filter_eq_length_iff.2]
  intro o ho
  have := hp o ho
  simp; omega
end Go.Proofs.YtjgjnlppphejpaaGreat.Ab
/- Rows of facts: cells, bulk, marks. Printed by gen_data.py. No condition. -/
namespace Go.Proofs.YtjgjnlppphejpaaGreat.Ab
open Go.RowKit
/- []DFact -/
def rDFactS (o : Own) (x : List DFact) : List C := [.s o (x.map (DFact.enc o))]
theorem rDFactS_fz (x : List DFact) : fzL (rDFactS .own x) = rDFactS .imm x := by simp [fzL, rDFactS, DFact.enc_fz, ← fzL_map, Function.comp_def]
theorem rDFactS_fr (x : List DFact) : frL (rDFactS .own x) := ⟨⟨.inl fun h => (by cases h), frR_map _ _ fun y _ => DFact.enc_fr y⟩, trivial⟩
def wfDFactS (x : List DFact) : Prop := x.length ≤ 9223372036854775807 ∧ ∀ y ∈ x, DFact.wf y
def cntDFactS : List DFact → Nat
  | [] => 0
  | x :: xs => DFact.cnt x + cntDFactS xs
def szDFactS (x : List DFact) : Nat := x.length
def smlDFactS (x : List DFact) : Prop := x.length ≤ 1048576 ∧ ∀ y ∈ x, DFact.sml y
def markDFactS : List DFact → Int → List DFact
  | [], _ => []
  | x :: xs, k => DFact.mark x k :: markDFactS xs (k + (DFact.cnt x : Nat))
theorem markDFactS_len : ∀ (x : List DFact) (k : Int), (markDFactS x k).length = x.length
  | [], _ => rfl
  | _ :: xs, k => by simp [markDFactS, markDFactS_len xs]
/-- How many marks the first i elements take. -/
def preDFactS : List DFact → Nat → Nat
  | [], _ => 0
  | _ :: _, 0 => 0
  | x :: xs, i + 1 => DFact.cnt x + preDFactS xs i
theorem markDFactS_get : ∀ (x : List DFact) (k : Int) (i : Nat) (y : DFact), x[i]? = some y → (markDFactS x k)[i]? = some (DFact.mark y (k + (preDFactS x i : Nat)))
  | [], _, i, y, h => by simp at h
  | x :: xs, k, 0, y, h => by simp at h; subst h; simp [markDFactS, preDFactS]
  | x :: xs, k, i + 1, y, h => by
    simp only [markDFactS, List.getElem?_cons_succ]
    rw [markDFactS_get xs _ i y (by simpa using h)]
    congr 2
    simp only [preDFactS]
    omega
theorem preDFactS_zero (x : List DFact) : preDFactS x 0 = 0 := by cases x <;> rfl
theorem preDFactS_succ : ∀ (x : List DFact) (i : Nat) (y : DFact), x[i]? = some y → preDFactS x (i + 1) = preDFactS x i + DFact.cnt y
  | [], i, y, h => by simp at h
  | x :: xs, 0, y, h => by simp at h; subst h; simp [preDFactS, preDFactS_zero]
  | x :: xs, i + 1, y, h => by
    simp only [preDFactS]
    rw [preDFactS_succ xs i y (by simpa using h)]
    omega
theorem preDFactS_all : ∀ (x : List DFact), preDFactS x x.length = cntDFactS x
  | [] => rfl
  | x :: xs => by simp only [List.length_cons, preDFactS, cntDFactS, preDFactS_all xs]
theorem smlDFactS_of {x : List DFact} (h : szDFactS x ≤ 1048576) : smlDFactS x := ⟨h, fun _ _ => trivial⟩
theorem cntDFactS_le : ∀ (x : List DFact), cntDFactS x ≤ 8 * szDFactS x
  | [] => by simp [cntDFactS]
  | x :: xs => by have := cntDFactS_le xs; simp only [cntDFactS, szDFactS, List.length_cons, DFact.cnt] at this ⊢; omega
theorem preDFactS_le : ∀ (x : List DFact) (i : Nat), preDFactS x i ≤ cntDFactS x
  | [], _ => by simp [preDFactS]
  | x :: xs, 0 => by simp [preDFactS]
  | x :: xs, i + 1 => by simp only [preDFactS, cntDFactS]; have := preDFactS_le xs i; omega
end Go.Proofs.YtjgjnlppphejpaaGreat.Ab
/- The facts of a heap: the reference's function. No condition. -/
namespace Go.Proofs.YtjgjnlppphejpaaGreat.Ab
open Go.RowKit
set_option maxRecDepth 20000
set_option maxHeartbeats 4000000
theorem Ap.sl {rows rs : List (List C)} {r : List C} {sz by_ : Nat} {K : List (List C) → Prop} (h1 : ∀ r ∈ rows, r.length = sz) (h2 : r.length = sz) (hl : rows.length + 1 ≤ 1073741824) (hb : by_ ≤ 1000) (hr : rs = rows ++ [r]) (hK : K rs) : Ap false rows [r] sz by_ K :=
  Ap.mk h1 (fun r' hr => by rw [List.mem_singleton.1 hr]; exact h2) (fun h => by cases h) (by simp; omega) (by
    have h1 : (rows.length + [r].length) * by_ ≤ 1073741824 * 1000 := Nat.mul_le_mul (by simpa using hl) hb
    omega) hr hK
theorem flt_yes {α : Type} [Inhabited α] {p : α → Bool} {xs : List α} {i : Nat} (hi : i < xs.length) (hp : p (nth xs i) = true) : (xs.take (i + 1)).filter p = (xs.take i).filter p ++ [nth xs i] := by
  rw [List.take_add_one, get_nth hi, List.filter_append]; simp [hp]
theorem flt_no {α : Type} [Inhabited α] {p : α → Bool} {xs : List α} {i : Nat} (hi : i < xs.length) (hp : p (nth xs i) = false) : (xs.take (i + 1)).filter p = (xs.take i).filter p := by
  rw [List.take_add_one, get_nth hi, List.filter_append]; simp [hp]
/-- What has been told behind the first i objects of the number n. -/
def factsAt (h : DHeap) (n i : Nat) : List DFact := factsTo h n ++ ((h.Objs.take i).filter (sameId n)).map (factOf h.Kernel)
theorem factsAt_zero (h : DHeap) (n : Nat) : factsAt h n 0 = factsTo h n := by simp [factsAt]
theorem factsAt_end (h : DHeap) (n : Nat) : factsAt h n h.Objs.length = factsTo h (n + 1) := by simp [factsAt, factsTo]
theorem factsAt_yes {h : DHeap} {n i : Nat} (hi : i < h.Objs.length) (hp : (nth h.Objs i).Id = n) : factsAt h n (i + 1) = factsAt h n i ++ [factOf h.Kernel (nth h.Objs i)] := by
  unfold factsAt; rw [flt_yes hi (by unfold sameId; exact decide_eq_true hp)]; simp
theorem factsAt_no {h : DHeap} {n i : Nat} (hi : i < h.Objs.length) (hp : (nth h.Objs i).Id ≠ n) : factsAt h n (i + 1) = factsAt h n i := by
  unfold factsAt; rw [flt_no hi (by unfold sameId; exact decide_eq_false hp)]
theorem factsAt_le {h : DHeap} (hh : heapS h = true) (n i : Nat) : (factsAt h n i).length ≤ h.Objs.length + h.Objs.length := by
  have hp := obj_pos hh
  have h1 := factsTo_le (h := h) (fun o ho => by have := hp o ho; omega) n
  have h2 : ((h.Objs.take i).filter (sameId n)).length ≤ (h.Objs.take i).length := List.length_filter_le ..
  have h3 : (h.Objs.take i).length ≤ h.Objs.length := List.length_take_le' ..
  unfold factsAt
  rw [List.length_append, List.length_map]
  omega
theorem sum_step {v k : Int} (hv : 0 ≤ v ∧ v ≤ 999) (hk : 0 ≤ k ∧ k ≤ 1000) : 0 ≤ k * v ∧ k * v ≤ 1000000 := by
  have h1 : 0 ≤ k * v := Int.mul_nonneg hk.1 hv.1
  have h2 : k * v ≤ 1000 * 999 := Int.mul_le_mul hk.2 hv.2 hv.1 (by decide)
  omega
mutual
theorem fz_fz : ∀ c : C, fz (fz c) = fz c
  | .v x => by simp [fz]
  | .s o rows => by simp only [fz]; rw [fzR_fzR rows]
  | .x => by simp [fz]
  | .z => by simp [fz]
  | .m _ => by simp [fz]
  | .it _ _ => by simp [fz]
theorem fzR_fzR : ∀ rs : List (List C), fzR (fzR rs) = fzR rs
  | [] => rfl
  | r :: rs => by simp only [fzR]; rw [fzL_fzL r, fzR_fzR rs]
theorem fzL_fzL : ∀ cs : List C, fzL (fzL cs) = fzL cs
  | [] => rfl
  | c :: cs => by simp only [fzL]; rw [fz_fz c, fzL_fzL cs]
end
theorem DHeap.enc_fzi (h : DHeap) : fzL (DHeap.enc .imm h) = DHeap.enc .imm h := by rw [← DHeap.enc_fz h, fzL_fzL]
theorem wkNil {α : Type} {e : α → List C} {l : List α} (h : l = []) : wkC .z (.s .own (l.map e)) := by subst h; rfl
theorem FactsOf_spec (h : DHeap) (hs : DHeap.sml h) (hw : DHeap.wf h) : CallsA Tryz.prog 23 false [.val (some 24) (DHeap.enc .imm h)] .one (rDFactS .own (factsOf h)) := by
  have c1 := HeapOk_spec h hs hw
  have hlo : h.Objs.length ≤ 1048576 := hs.2.2.2.2.1.1
  cases e1 : heapS h <;> rw [e1] at c1
  · rw [show factsOf h = [] by unfold factsOf; rw [e1]; rfl]
    refine fnOk (n := 78) (mo := []) (tb := []) Tryz.func23 (by kernel_rfl) rfl (by kernel_rfl) (by rfl) (.inr (rDFactS_fr _)) ?_
    repeat' ((conv => whnf); first | with_reducible (first | refine Ln.mk (List.length_map ..) ?_ | refine Wr.mk (wrapI (by omega) (by omega)) ?_ | refine Bf.not ?_ | refine Fin_.wk rfl ?_) | refine Bf.t rfl ?_ | refine Bf.f rfl ?_ | refine Cl.mk (c1) ?_)
    exact ⟨rfl, trivial⟩
  · have hk := heapS_kernel e1
    have hnx := next_bd e1
    have hf1 := factsTo_one e1
    refine fnOk (n := 78) (mo := []) (tb := []) Tryz.func23 (by kernel_rfl) rfl (by kernel_rfl) (by rfl) (.inr (rDFactS_fr _)) ?_
    repeat' ((conv => whnf); first | with_reducible (first | refine Ln.mk (List.length_map ..) ?_ | refine Wr.mk (wrapI (by omega) (by omega)) ?_ | refine Bf.not ?_ | refine Fin_.wk rfl ?_) | refine Bf.t rfl ?_ | refine Bf.f rfl ?_ | refine Cl.mk (c1) ?_)
    (conv => whnf)
    refine Lp.mk (ι := Nat) (fun n => [(1, .hold .box (DHeap.enc .imm h)), (3, .hold .one (rDFactS .own (factsTo h n))), (4, .hold .one [I ((n : Nat) : Int)])]) (fun n => 1 ≤ n ∧ (n : Int) ≤ h.Next) (fun n => h.Next.toNat - n) (1) ?_ (⟨Nat.le_refl _, by omega⟩) fun n hn => ?_
    · repeat' (first | exact trivial | rfl  | exact wkNil (by assumption) | refine And.intro ?_ ?_ | (exact wkI (by first | omega | (simp only; omega) | (simp; omega))))
    obtain ⟨hn1, hn2⟩ := hn
    by_cases hd : (factsTo h n).length < h.Objs.length ∧ (n : Int) < h.Next
    · repeat' ((conv => whnf); first | with_reducible (first | refine Ln.mk (List.length_map ..) ?_ | refine Wr.mk (wrapI (by omega) (by omega)) ?_ | refine Bf.D (fun hq => ?_) (fun hq => absurd hq (by omega)) | refine Bf.not ?_ | refine Fin_.mk rfl ?_) | refine Bf.t rfl ?_ | refine Bf.f rfl ?_ | refine Bf.t (by simp; omega) ?_)
      rw [← factsAt_zero h n]
      (conv => whnf)
      refine Lp.mk (ι := Nat) (fun i => [(1, .hold .box (DHeap.enc .imm h)), (3, .hold .one (rDFactS .own (factsAt h n i))), (4, .hold .one [I ((n : Nat) : Int)]), (5, .hold .one [I ((i : Nat) : Int)])]) (fun i => i ≤ h.Objs.length) (fun i => h.Objs.length - i) (0) ?_ (Nat.zero_le _) fun i hi => ?_
      · repeat' (first | exact trivial | rfl  | exact wkNil (by assumption) | refine And.intro ?_ ?_ | (exact wkI (by first | omega | (simp only; omega) | (simp; omega))))
      by_cases li : i < h.Objs.length
      · have hx := get_nth li
        obtain ⟨b1, b2, b3, b4, b5, b6, -⟩ := obj_bd e1 li
        have hfl := factsAt_le e1 n i
        have c2 := l31Cells_spec h (nth h.Objs i) hk (by omega) (by omega)
        have hcl := cellsOf_len h.Kernel (nth h.Objs i).Addr (nth h.Objs i).Size.toNat
        by_cases hid : (nth h.Objs i).Id = n
        · repeat' ((conv => whnf); first | with_reducible (first | refine Ln.mk (List.length_map ..) ?_ | refine Wr.mk (wrapI (by omega) (by omega)) ?_ | refine Ix.nat (get_map hx) ?_ | refine Bf.D (fun hq => ?_) (fun hq => absurd hq (by omega)) | refine Bf.N (fun hq => absurd hq (by omega)) (fun hq => ?_) | refine Bf.not ?_ | refine Fin_.mk rfl ?_) | refine Bf.t rfl ?_ | refine Bf.f rfl ?_ | refine Cl.eq (c2) ⟨DHeap.enc_fzi h, ⟨rfl, rfl⟩, trivial⟩ ?_)
          (conv => whnf)
          refine Lp.mk (ι := Nat) (fun q => [(1, .hold .box (DHeap.enc .imm h)), (3, .hold .one (rDFactS .own (factsAt h n i))), (4, .hold .one [I ((n : Nat) : Int)]), (5, .hold .one [I ((i : Nat) : Int)]), (6, .hold .one [I (sumN (cellsOf h.Kernel (nth h.Objs i).Addr (nth h.Objs i).Size.toNat) q)]), (7, .hold .one (rIntS .own (cellsOf h.Kernel (nth h.Objs i).Addr (nth h.Objs i).Size.toNat))), (8, .hold .one [I ((q : Nat) : Int)])]) (fun q => q ≤ (nth h.Objs i).Size.toNat) (fun q => (nth h.Objs i).Size.toNat - q) (0) ?_ (Nat.zero_le _) fun q hq => ?_
          · repeat' (first | exact trivial | rfl  | exact wkNil (by assumption) | refine And.intro ?_ ?_ | (exact wkI (by first | omega | (simp only; omega) | (simp; omega))))
          have hfa := sumN_bd (cellsOf h.Kernel (nth h.Objs i).Addr (nth h.Objs i).Size.toNat) q
          by_cases lq : q < (nth h.Objs i).Size.toNat
          · have hy := cellsOf_get h.Kernel (nth h.Objs i).Addr lq
            have hv := cellOf_bd hk ((nth h.Objs i).Addr + (q : Int))
            have hst := sum_step (k := (q : Int) + 1) hv (by omega)
            have hmod : (sumN (cellsOf h.Kernel (nth h.Objs i).Addr (nth h.Objs i).Size.toNat) q + ((q : Int) + 1) * cellOf h.Kernel ((nth h.Objs i).Addr + (q : Int))).tmod 9973 = sumN (cellsOf h.Kernel (nth h.Objs i).Addr (nth h.Objs i).Size.toNat) (q + 1) := by
              rw [tmod_pos (by omega), sumN, nth_of hy]
            repeat' ((conv => whnf); first | with_reducible (first | refine Ln.mk (List.length_map ..) ?_ | refine Wr.mk (wrapI (by omega) (by omega)) ?_ | refine Ix.nat (get_map hy) ?_ | refine Bf.D (fun hq => ?_) (fun hq => absurd hq (by omega)) | refine Bf.not ?_ | refine Fin_.mk rfl ?_) | refine Bf.t rfl ?_ | refine Bf.f rfl ?_ | refine Rw.one rfl (get_map hy) rfl ?_ | refine Cd.mk (by decide) ?_ | refine Ev.mk hmod ?_)
            ((conv => whnf); refine Nx.mk (q + 1) (by omega) (by omega) ?_; (repeat' (first | exact trivial | rfl | refine And.intro ?_ ?_ | (exact wkI (by first | omega | (simp only; omega) | (simp; omega))))))
          · obtain rfl : q = (nth h.Objs i).Size.toNat := by omega
            repeat' ((conv => whnf); first | with_reducible (first | refine Ln.mk (List.length_map ..) ?_ | refine Wr.mk (wrapI (by omega) (by omega)) ?_ | refine Ix.nat (get_map hx) ?_ | refine Bf.D (fun hq => absurd hq (by omega)) (fun hq => ?_) | refine Bf.not ?_ | refine Fin_.mk rfl ?_) | refine Bf.t rfl ?_ | refine Bf.f rfl ?_ | refine Ap.sl (map_one fun _ => rfl) rfl (by simp; omega) (by decide) rfl ?_)
            (conv => whnf)
            refine Nx.mk (i + 1) (by omega) (by omega) ?_
            rw [factsAt_yes li hid]
            (repeat' (first | exact trivial | rfl | exact And.intro rfl (And.intro (congrArg (C.s Own.own) (by simp [DFact.enc, factOf, hid])) trivial) | refine And.intro ?_ ?_))
        · repeat' ((conv => whnf); first | with_reducible (first | refine Ln.mk (List.length_map ..) ?_ | refine Wr.mk (wrapI (by omega) (by omega)) ?_ | refine Ix.nat (get_map hx) ?_ | refine Bf.D (fun hq => ?_) (fun hq => absurd hq (by omega)) | refine Bf.N (fun hq => ?_) (fun hq => absurd hq (by omega)) | refine Bf.not ?_ | refine Fin_.mk rfl ?_) | refine Bf.t rfl ?_ | refine Bf.f rfl ?_)
          (conv => whnf)
          refine Nx.mk (i + 1) (by omega) (by omega) ?_
          rw [factsAt_no li hid]
          repeat' (first | exact trivial | rfl | refine And.intro ?_ ?_ | (exact wkI (by first | omega | (simp only; omega) | (simp; omega))))
      · repeat' ((conv => whnf); first | with_reducible (first | refine Ln.mk (List.length_map ..) ?_ | refine Wr.mk (wrapI (by omega) (by omega)) ?_ | refine Bf.D (fun hq => absurd hq (by omega)) (fun hq => ?_) | refine Bf.not ?_ | refine Fin_.mk rfl ?_) | refine Bf.t rfl ?_ | refine Bf.f rfl ?_)
        obtain rfl : i = h.Objs.length := by omega
        rw [factsAt_end]
        ((conv => whnf); refine Nx.mk (n + 1) ⟨by omega, by omega⟩ (by omega) ?_; (repeat' (first | exact trivial | rfl | refine And.intro ?_ ?_ | (exact wkI (by first | omega | (simp only; omega) | (simp; omega))))))
    · have hdone := factsOf_done e1 hn2 (by omega)
      repeat' ((conv => whnf); first | with_reducible (first | refine Ln.mk (List.length_map ..) ?_ | refine Wr.mk (wrapI (by omega) (by omega)) ?_ | refine Bf.D (fun hq => ?_) (fun hq => absurd hq (by omega)) | refine Bf.D (fun hq => absurd hq (by omega)) (fun hq => ?_) | refine Bf.D (fun hq => ?_) (fun hq => ?_) | refine Bf.not ?_ | refine Fin_.mk rfl ?_) | refine Bf.t rfl ?_ | refine Bf.f rfl ?_)
      all_goals exact congrArg (rDFactS .own) hdone
end Go.Proofs.YtjgjnlppphejpaaGreat.Ab
/- The library's SortFunc on facts of the call's own, by their numbers; what it leaves is what the reference lists. No condition. -/
namespace Go.Proofs.YtjgjnlppphejpaaGreat.Ab
open Go.RowKit
set_option maxRecDepth 20000
set_option maxHeartbeats 4000000
/-- Two lists that ascend and hold the same are one. -/
theorem asc_uniq : ∀ {a b : List DFact}, a.Pairwise (fun x y => x.Id < y.Id) → b.Pairwise (fun x y => x.Id < y.Id) → (∀ x, x ∈ a ↔ x ∈ b) → a = b
  | [], [], _, _, _ => rfl
  | [], y :: b, _, _, h => by have := (h y).2 (List.mem_cons_self ..); cases this
  | x :: a, [], _, _, h => by have := (h x).1 (List.mem_cons_self ..); cases this
  | x :: a, y :: b, ha, hb, h => by
    rw [List.pairwise_cons] at ha hb
    have hxy : x = y := by
      rcases List.mem_cons.1 ((h x).1 (List.mem_cons_self ..)) with e | e
      · exact e
      · rcases List.mem_cons.1 ((h y).2 (List.mem_cons_self ..)) with e2 | e2
        · exact e2.symm
        · have h1 := hb.1 x e
          have h2 := ha.1 y e2
          omega
    subst hxy
    rw [asc_uniq ha.2 hb.2 fun z => ?_]
    constructor
    · intro hz
      rcases List.mem_cons.1 ((h z).1 (List.mem_cons_of_mem _ hz)) with e | e
      · subst e; have := ha.1 z hz; omega
      · exact e
    · intro hz
      rcases List.mem_cons.1 ((h z).2 (List.mem_cons_of_mem _ hz)) with e | e
      · subst e; have := hb.1 z hz; omega
      · exact e
theorem objs_apart {h : DHeap} (hh : heapS h = true) : h.Objs.Pairwise fun o o' => o.Id ≠ o'.Id := by
  rw [List.pairwise_iff_getElem]
  intro i j hi hj hij e
  refine obj_ne hh hi hj (by omega) ?_
  rw [nth_of (List.getElem?_eq_getElem hi), nth_of (List.getElem?_eq_getElem hj)]; exact e
theorem factsTo_asc {h : DHeap} (hh : heapS h = true) : ∀ n : Nat, (factsTo h n).Pairwise fun x y => x.Id < y.Id
  | 0 => List.Pairwise.nil
  | n + 1 => by
    rw [factsTo, List.pairwise_append]
    refine ⟨factsTo_asc hh n, ?_, fun x hx y hy => ?_⟩
    · rw [List.pairwise_map]
      refine List.Pairwise.imp_of_mem ?_ ((objs_apart hh).filter _)
      intro o o' h1 h2 hne
      have g1 := (List.mem_filter.1 h1).2
      have g2 := (List.mem_filter.1 h2).2
      unfold sameId at g1 g2
      rw [decide_eq_true_eq] at g1 g2
      exact absurd (g1.trans g2.symm) hne
    · obtain ⟨o, -, ⟨m, hm, h1⟩, rfl⟩ := factsTo_mem.1 hx
      obtain ⟨o', ho', rfl⟩ := List.mem_map.1 hy
      have := (List.mem_filter.1 ho').2
      unfold sameId at this
      rw [decide_eq_true_eq] at this
      show o.Id < o'.Id
      omega
/-- The facts in the objects' order, sorted by their numbers: those that the reference lists. -/
theorem factsOf_sorted {h : DHeap} (hh : heapS h = true) {zs : List DFact} (hp : zs.Perm (h.Objs.map (factOf h.Kernel))) (hs : zs.Pairwise fun x y => x.Id ≤ y.Id) : zs = factsOf h := by
  have hb := obj_pos hh
  unfold factsOf
  rw [if_pos hh]
  refine asc_uniq ?_ (factsTo_asc hh _) fun x => ?_
  · have hne : zs.Pairwise fun x y => x.Id ≠ y.Id := by
      refine (hp.pairwise_iff (fun {x y} h => Ne.symm h)).2 ?_
      rw [List.pairwise_map]
      exact (objs_apart hh).imp fun h => h
    exact (hs.and hne).imp fun h => by omega
  · rw [hp.mem_iff, factsTo_mem, List.mem_map]
    constructor
    · rintro ⟨o, h1, h2⟩
      have := hb o h1
      exact ⟨o, h1, ⟨o.Id.toNat, by omega, by omega⟩, h2⟩
    · rintro ⟨o, h1, -, h2⟩
      exact ⟨o, h1, h2⟩
end Go.Proofs.YtjgjnlppphejpaaGreat.Ab
