/- Words for memory: rows of integer cells that came in (IRow), blocks known whole (Blk), and what a make and a store do to them. No condition. -/
import Derived.Test.YtifeilefdakapaaGreatDoorProg
import Derived.WalkKit
import Derived.Handy
import Derived.Deep.Draws
import Derived.Lib.Hide
namespace Go.Proofs.YtifeilefdakapaaGreatDoor.Mm
open Go.RowKit

theorem ret_bool {a b : Bool} (h : a = b) : Ending.returned (.bool a) = .returned (.bool b) := by rw [h]
theorem ret_int {k : IntKind} {a b : Int} (h : a = b) : Ending.returned (.int k a) = .returned (.int k b) := by rw [h]

abbrev I (z : Int) : Value := .int .i64 z
/-- The i-th number (a plain name, so that the walk leaves it alone). -/
def gI (zs : List Int) (i : Nat) : Int := zs.getD i 0

/-- The slice value '.slice A n c' holds n elements of k integer cells each, below block B: the numbers zs. -/
def IRow (w : World) (B : Nat) (A : Option Addr) (n k : Nat) (zs : List Int) : Prop :=
  zs.length = n * k ∧ (0 < n → ∃ b off, A = some ⟨b, off, none⟩ ∧ b < B ∧ ∀ j, j < n * k → w.cell? ⟨b, off + j, none⟩ = some (I (gI zs j)))

section
variable {w w' : World} {B B' n k : Nat} {A : Option Addr} {zs : List Int}
theorem IRow.keep (h : IRow w B A n k zs) (hk : ∀ p : Addr, p.block < B → w'.cell? p = w.cell? p) : IRow w' B A n k zs :=
  ⟨h.1, fun hn => by
    obtain ⟨b, off, e, hb, hc⟩ := h.2 hn
    exact ⟨b, off, e, hb, fun j hj => (hk _ hb).trans (hc j hj)⟩⟩
theorem IRow.below (h : IRow w B A n k zs) (hb : Below B w w') : IRow w' B A n k zs := h.keep fun _ hp => hb.cell hp
theorem IRow.more (h : IRow w B A n k zs) (hB : B ≤ B') : IRow w B' A n k zs :=
  ⟨h.1, fun hn => by
    obtain ⟨b, off, e, hb, hc⟩ := h.2 hn
    exact ⟨b, off, e, by omega, hc⟩⟩
/-- Element i's cell j. -/
theorem IRow.at_ {b off : Nat} (h : IRow w B (some ⟨b, off, none⟩) n k zs) {i j : Nat} (hi : i < n) (hj : j < k) : w.cell? ⟨b, off + i * k + j, none⟩ = some (I (gI zs (i * k + j))) := by
  obtain ⟨b', off', e, _, hc⟩ := h.2 (by omega)
  injection e with e; injection e with e1 e2; subst e1 e2
  rw [Nat.add_assoc]
  exact hc _ (by
    have : (i + 1) * k ≤ n * k := Nat.mul_le_mul_right k hi
    rw [Nat.add_mul] at this; omega)
theorem IRow.at1 {b off : Nat} (h : IRow w B (some ⟨b, off, none⟩) n 1 zs) {i : Nat} (hi : i < n) : w.cell? ⟨b, off + i, none⟩ = some (I (gI zs i)) := by
  obtain ⟨b', off', e, _, hc⟩ := h.2 (by omega)
  injection e with e; injection e with e1 e2; subst e1 e2
  exact hc _ (by omega)
theorem IRow.form (h : IRow w B A n k zs) (hn : 0 < n) : ∃ b off, A = some ⟨b, off, none⟩ ∧ b < B := by
  obtain ⟨b, off, e, hb, _⟩ := h.2 hn
  exact ⟨b, off, e, hb⟩
end

/-- Block g is just the cells cs of element type t, none frozen. -/
def Blk (w : World) (g : Nat) (t : TypeId) (cs : Array Value) : Prop := w.heap[g]? = some (.cells cs t (0, 0))

section
variable {w w' : World} {g : Nat} {t : TypeId} {cs : Array Value}
theorem Blk.lt (h : Blk w g t cs) : g < w.heap.size := by
  rcases Nat.lt_or_ge g w.heap.size with hlt | hge
  · exact hlt
  · unfold Blk at h; rw [Array.getElem?_eq_none hge] at h; cases h
theorem Blk.cell (h : Blk w g t cs) (i : Nat) : w.cell? ⟨g, i, none⟩ = cs[i]? := cell_of_row w g i cs t (0, 0) h
theorem Blk.frozen (h : Blk w g t cs) (i : Nat) : w.frozen? ⟨g, i, none⟩ = false := by
  unfold Blk at h
  simp [World.frozen?, h]
theorem Blk.new (w : World) (t : TypeId) (cs : Array Value) : Blk (w.alloc (.cells cs t)) w.heap.size t cs := heap_alloc_new w _
theorem Blk.alloc (h : Blk w g t cs) (o : Obj) : Blk (w.alloc o) g t cs := (Below.heap_alloc w o g h.lt).trans h
theorem Blk.set_ (h : Blk w g t cs) (i : Nat) (u : Value) : Blk (w.setCell ⟨g, i, none⟩ u) g t (cs.setIfInBounds i u) := by
  unfold Blk at h ⊢
  simp [World.setCell, Array.getElem?_modify, h]
theorem Blk.far (h : Blk w g t cs) {p : Addr} (hp : g ≠ p.block) (u : Value) : Blk (w.setCell p u) g t cs := (Below.heap_setCell w p u g hp).trans h
theorem Blk.below {B : Nat} (h : Blk w g t cs) (hb : Below B w w') (hg : g < B) : Blk w' g t cs := (hb.block g hg).trans h
/-- A block of integer cells is a row. -/
theorem Blk.irow {n k : Nat} {zs : List Int} (h : Blk w g t (zs.map I).toArray) (hz : zs.length = n * k) : IRow w w.heap.size (some ⟨g, 0, none⟩) n k zs := by
  refine ⟨hz, fun _ => ⟨g, 0, rfl, h.lt, fun j hj => ?_⟩⟩
  rw [Nat.zero_add, h.cell]
  have hj' : j < zs.length := by omega
  simp [hj', gI, List.getD]
end

theorem run_make_rowN {P : Program} (t e : TypeId) (i : TypeInfo) (z : Value) (ht : P.underlying t = some (.slice e)) (hi : P.info? e = some i) (hz : i.zero = some z)
    (kl kc : IntKind) (n c : Nat) (hnc : n ≤ c) (hbytes : i.bytes * c ≤ 281474976710656) (h63 : c ≤ 9223372036854775807) (w : World) :
    (Instr.makeSlice t (.int kl (n : Int)) (.int kc (c : Int))).run P w = .ok (.slice (some ⟨w.heap.size, 0, none⟩) n c) (w.alloc (.cells (madeCells z.cells (c * i.size)) e)) := by
  have hb : (i.bytes : Int) * (c : Int) ≤ 281474976710656 := by
    have h : ((i.bytes * c : Nat) : Int) ≤ 281474976710656 := by omega
    rwa [Int.natCast_mul] at h
  have hr := run_make (P := P) w t e i z ht hi hz kl kc n c (by omega) (by omega) hb (by omega)
  simp only [Int.toNat_natCast] at hr
  exact hr

/-- The first p of the numbers zs, then zeros: what a block made for zs holds when p cells have been stored. -/
def fillP (zs : List Int) (p : Nat) : Array Value := (((zs.take p) ++ List.replicate (zs.length - p) 0).map I).toArray
theorem fillP_size (zs : List Int) (p : Nat) (h : p ≤ zs.length) : (fillP zs p).size = zs.length := by simp [fillP]; omega
theorem fillP_all (zs : List Int) : fillP zs zs.length = (zs.map I).toArray := by simp [fillP]
theorem fillP_get (zs : List Int) (p j : Nat) (h : j < zs.length) (hp : p ≤ j) : (fillP zs p)[j]? = some (I 0) := by
  simp only [fillP, List.getElem?_toArray, List.getElem?_map]
  rw [List.getElem?_append_right (by simp; omega)]
  simp [List.getElem?_replicate]
  omega
theorem fillP_set (zs : List Int) (p : Nat) (h : p < zs.length) : (fillP zs p).setIfInBounds p (I (gI zs p)) = fillP zs (p + 1) := by
  apply Array.ext_getElem?
  intro j
  rw [Array.getElem?_setIfInBounds]
  simp only [fillP, List.getElem?_toArray, List.getElem?_map, List.size_toArray, List.length_map, List.length_append, List.length_take, List.length_replicate]
  by_cases hj : p = j
  · subst hj
    rw [if_pos rfl, if_pos (by omega), List.getElem?_append_left (by simp; omega)]
    simp [h, gI, List.getD]
  · rw [if_neg hj]
    congr 1
    rcases Nat.lt_or_ge j p with hlt | hge
    · rw [List.getElem?_append_left (by simp; omega), List.getElem?_append_left (by simp; omega)]
      simp [hlt, Nat.lt_succ_of_lt hlt]
    · rw [List.getElem?_append_right (by simp; omega), List.getElem?_append_right (by simp; omega)]
      simp only [List.getElem?_replicate, List.length_take]
      have h1 : min p zs.length = p := by omega
      have h2 : min (p + 1) zs.length = p + 1 := by omega
      rw [h1, h2]
      by_cases hz : j < zs.length
      · rw [if_pos (by omega), if_pos (by omega)]
      · rw [if_neg (by omega), if_neg (by omega)]
theorem Blk.fill {w : World} {g : Nat} {t : TypeId} {zs : List Int} {p : Nat} (h : Blk w g t (fillP zs p)) (hp : p < zs.length) : Blk (w.setCell ⟨g, p, none⟩ (I (gI zs p))) g t (fillP zs (p + 1)) := by
  rw [← fillP_set zs p hp]
  exact h.set_ p _
theorem made_fillP (zs : List Int) (m : Nat) (z : Array Value) (k : Nat) (hz : z = (List.replicate k (I 0)).toArray) (hk : 0 < k) (hm : m * k = zs.length) : madeCells z (m * k) = fillP zs 0 := by
  subst hz
  apply Array.ext_getElem?
  intro j
  by_cases hj : j < m * k
  · have hmod : j % k < k := Nat.mod_lt _ hk
    simp [madeCells, fillP, hj, ← hm, hmod]
  · simp [madeCells, fillP, hj, ← hm]

/-- The numbers k0, k0 + 1, .. (m of them). -/
def seqI (k0 : Int) (m : Nat) : List Int := (List.range m).map fun (j : Nat) => k0 + (j : Int)
theorem seqI_length (k0 : Int) (m : Nat) : (seqI k0 m).length = m := by simp [seqI]
theorem seqI_get (k0 : Int) (m j : Nat) (h : j < m) : gI (seqI k0 m) j = k0 + (j : Int) := by simp [gI, seqI, List.getD, h]
/-- The cells cur, the first p of them overwritten by k0, k0 + 1, ... -/
def markP (cur : Array Value) (k0 : Int) : Nat → Array Value
  | 0 => cur
  | p + 1 => (markP cur k0 p).setIfInBounds p (I (k0 + (p : Int)))
theorem markP_size (cur : Array Value) (k0 : Int) (p : Nat) : (markP cur k0 p).size = cur.size := by
  induction p with
  | zero => rfl
  | succ p ih => simp [markP, ih]
theorem markP_get (cur : Array Value) (k0 : Int) (p j : Nat) (hj : j < cur.size) : (markP cur k0 p)[j]? = if j < p then some (I (k0 + (j : Int))) else cur[j]? := by
  induction p with
  | zero => simp [markP]
  | succ p ih =>
    simp only [markP, Array.getElem?_setIfInBounds, markP_size]
    by_cases h : p = j
    · subst h; simp [hj]
    · rw [if_neg h, ih]
      by_cases h2 : j < p
      · rw [if_pos h2, if_pos (by omega)]
      · rw [if_neg h2, if_neg (by omega)]
theorem markP_take (cur : Array Value) (k0 : Int) (m : Nat) (h : m ≤ cur.size) : (markP cur k0 m).toList.take m = (seqI k0 m).map I := by
  apply List.ext_getElem?
  intro j
  by_cases hj : j < m
  · rw [List.getElem?_take, if_pos hj, Array.getElem?_toList, markP_get _ _ _ _ (by omega), if_pos hj]
    simp [seqI, hj]
  · rw [List.getElem?_eq_none (by simp; omega), List.getElem?_eq_none (by simp [seqI]; omega)]
theorem markP_some (cur : Array Value) (k0 : Int) (p j : Nat) (hj : j < cur.size) : ∃ u, (markP cur k0 p)[j]? = some u := by
  have : j < (markP cur k0 p).size := by rw [markP_size]; exact hj
  exact ⟨_, Array.getElem?_eq_getElem this⟩
theorem Blk.mark {w : World} {g : Nat} {t : TypeId} {cur : Array Value} {k0 : Int} {p : Nat} (h : Blk w g t (markP cur k0 p)) {v : Value} (hv : v = I (k0 + (p : Int))) : Blk (w.setCell ⟨g, p, none⟩ v) g t (markP cur k0 (p + 1)) := by
  subst hv
  exact h.set_ p _

theorem grown_of_below {w w' : World} (h : Below w.heap.size w w') (row : Option Nat) : w.grownBy w' row := ⟨h.os, h.tape, h.output, h.size, fun k hk _ => h.block k hk⟩
/-- An owned row stays owned where nothing old is written. -/
theorem own_below {w w' : World} {base size n : Nat} {e : TypeId} {v : Value} {xs : List Value} (h : w.ownsRow base e size v n xs) (hb : Below w.heap.size w w') : w'.ownsRow base e size v n xs :=
  h.kept (grown_of_below hb none) (by cases v.ownBlock <;> simp)
/-- An owned row stays owned while another one is written. -/
theorem own_other {w w' : World} {base size n : Nat} {e : TypeId} {v v' : Value} {xs : List Value} (h : w.ownsRow base e size v n xs) (hg : w.grownBy w' v'.ownBlock) (hne : v.ownBlock = none ∨ v.ownBlock ≠ v'.ownBlock) : w'.ownsRow base e size v n xs :=
  h.kept hg hne
/-- A row that came in stays as it is while a row of the call's own is written. -/
theorem irow_own {w w' : World} {B base size n m k : Nat} {e : TypeId} {A : Option Addr} {v : Value} {xs : List Value} {zs : List Int} (h : IRow w B A m k zs) (ho : w.ownsRow base e size v n xs) (hg : w.grownBy w' v.ownBlock) (hB : B ≤ base) (hB2 : B ≤ w.heap.size) : IRow w' B A m k zs :=
  h.keep fun p hp => World.cell?_of_block (hg.block p.block (by omega) (fun e => by have := (ho.lt _ e.symm).1; omega))
theorem below_own {w0 w w' : World} {base size n : Nat} {e : TypeId} {v : Value} {xs : List Value} (h : Below w0.heap.size w0 w) (ho : w.ownsRow base e size v n xs) (hg : w.grownBy w' v.ownBlock) (hB : w0.heap.size ≤ base) : Below w0.heap.size w0 w' :=
  h.grown hg h.size (fun k hk => by have := (ho.lt k hk).1; omega)
theorem own_mono {w : World} {base base' size n : Nat} {e : TypeId} {v : Value} {xs : List Value} (h : w.ownsRow base e size v n xs) (hb : base' ≤ base) : w.ownsRow base' e size v n xs := by
  refine ⟨h.1, ?_⟩
  rcases h.2 with hn | ⟨g, cap, cur, rfl, hg, rest⟩
  · exact .inl hn
  · exact .inr ⟨g, cap, cur, rfl, by omega, rest⟩
/-- A row owned from base on is another one than a row that lies below base. -/
theorem own_ne {w w1 : World} {base base1 size size1 n n1 : Nat} {e e1 : TypeId} {v v1 : Value} {xs xs1 : List Value} (h : w.ownsRow base e size v n xs) (h1 : w1.ownsRow base1 e1 size1 v1 n1 xs1) (hb : w1.heap.size ≤ base) : v1.ownBlock = none ∨ v1.ownBlock ≠ v.ownBlock := by
  rcases hv : v1.ownBlock with _ | g
  · exact .inl rfl
  · refine .inr fun hE => ?_
    have a := (h1.lt g hv).2
    have b := (h.lt g hE.symm).1
    omega

/-- A row of the call's own, read as numbers. -/
theorem IRow.of_own {w : World} {base B : Nat} {e : TypeId} {A : Option Addr} {n c k : Nat} {zs : List Int} (h : w.ownsRow base e k (.slice A n c) n (zs.map I)) (hB : w.heap.size ≤ B) : IRow w B A n k zs := by
  refine ⟨by simpa using h.1, fun hn => ?_⟩
  rcases h.2 with ⟨hv, h0⟩ | ⟨g, cap, cur, hv, hg, hh, hnc, hm, hsz, htake⟩
  · omega
  · injection hv with hA _ _
    refine ⟨g, 0, hA, ?_, fun j hj => ?_⟩
    · have := (Array.getElem?_eq_some_iff.1 hh).1; omega
    · rw [Nat.zero_add, cell_of_row w g j cur e (0, 0) hh]
      have hlen : (zs.map I).length = n * k := h.1
      have hz : j < zs.length := by simpa using (by omega : j < (zs.map I).length)
      have h1 : (cur.toList.take (n * k))[j]? = (zs.map I)[j]? := by rw [htake]
      rw [List.getElem?_take, if_pos hj, Array.getElem?_toList] at h1
      rw [h1]
      simp [hz, gI, List.getD]
theorem own_of_blk {w : World} {base g : Nat} {e : TypeId} {n k : Nat} {zs : List Int} (h : Blk w g e (zs.map I).toArray) (hg : base ≤ g) (hz : zs.length = n * k) (hm : n ≤ maxLen) : w.ownsRow base e k (.slice (some ⟨g, 0, none⟩) n n) n (zs.map I) := by
  refine ⟨by simpa using hz, .inr ⟨g, n, _, rfl, hg, h, Nat.le_refl _, hm, by simpa using hz, ?_⟩⟩
  show List.take (n * k) (zs.map I) = zs.map I
  exact List.take_of_length_le (by simp; omega)
theorem grown_refl (w : World) (row : Option Nat) : w.grownBy w row := ⟨rfl, rfl, rfl, Nat.le_refl _, fun _ _ _ => rfl⟩
theorem grown_setCell {a w : World} {g : Nat} (h : a.grownBy w (some g)) (o : Nat) (u : Value) : a.grownBy (w.setCell ⟨g, o, none⟩ u) (some g) :=
  ⟨h.os, h.tape, h.output, by simpa [World.setCell] using h.size, fun i hi hne => (Below.heap_setCell w _ u i (by
    rintro rfl
    exact hne rfl)).trans (h.block i hi hne)⟩

theorem ne_of_gI {zs ys : List Int} {j : Nat} (h : ¬ gI zs j = gI ys j) : false = decide (zs = ys) := by
  rw [decide_eq_false]
  rintro rfl
  exact h rfl
theorem eq_of_gI {zs ys : List Int} (hl : zs.length = ys.length) (h : ∀ j, j < zs.length → gI zs j = gI ys j) : zs = ys := by
  apply List.ext_getElem hl
  intro j h1 h2
  have := h j h1
  simpa [gI, List.getD, h1, h2] using this
theorem ne_of_len {zs ys : List Int} (h : zs.length ≠ ys.length) : false = decide (zs = ys) := by
  rw [decide_eq_false]
  rintro rfl
  exact h rfl

/-- The cells of a new block of k cells. -/
theorem cells_new (w : World) (cs : Array Value) (t : TypeId) : ∀ j u, cs.toList[j]? = some u → (w.alloc (.cells cs t)).cell? ((⟨w.heap.size, 0, none⟩ : Addr).add j) = some u := by
  intro j u hj
  have hadd : (⟨w.heap.size, 0, none⟩ : Addr).add j = ⟨w.heap.size, j, none⟩ := by unfold Addr.add; split <;> simp_all
  rw [hadd, (Blk.new w t cs).cell]
  simpa using hj
theorem one_new : True := trivial
theorem one_I (zs : List Int) : ∀ u ∈ zs.map I, u.oneCell' = true := by
  intro u hu
  obtain ⟨z, _, rfl⟩ := List.mem_map.1 hu
  rfl
/-- The call handed back a slice of n elements of type t (k integer cells each) in new memory: the numbers zs; nothing old has turned. -/
def OwnRet (w : World) (t k n : Nat) (zs : List Int) (e : Ending) (w' : World) : Prop :=
  ∃ A c, e = .returned (.slice A n c) ∧ w'.ownsRow w.heap.size t k (.slice A n c) n (zs.map I) ∧ Below w.heap.size w w'
theorem own_form {w : World} {base size n : Nat} {e : TypeId} {v : Value} {xs : List Value} (h : w.ownsRow base e size v n xs) : ∃ A c, v = .slice A n c := by
  rcases h.2 with ⟨rfl, rfl⟩ | ⟨g, cap, cur, rfl, _⟩
  · exact ⟨none, 0, rfl⟩
  · exact ⟨_, _, rfl⟩
theorem ownRet_of {w w' : World} {t k n : Nat} {zs : List Int} {v : Value} (h : w'.ownsRow w.heap.size t k v n (zs.map I)) (hb : Below w.heap.size w w') : OwnRet w t k n zs (.returned v) w' := by
  obtain ⟨A, c, rfl⟩ := own_form h
  exact ⟨A, c, rfl, h, hb⟩
end Go.Proofs.YtifeilefdakapaaGreatDoor.Mm
