/- spec.FormatInt, and ParseUint of both sides: for every int, for every string of bounded length. -/
import Derived.Test.YtifeilefdakapaaGreatDoorProg
import Derived.Test.YtifeilefdakapaaGreatDoorKPTxt
import Derived.Test.YtifeilefdakapaaGreatDoorKPMem
import Derived.WalkKit
import Derived.WalkLawsBesides
import Derived.Handy
import Derived.Lib.Hide
namespace Go.Proofs.YtifeilefdakapaaGreatDoor.Nm
open Go.RowKit Tx Mm
set_option maxRecDepth 4000

theorem ret_str {a b : ByteArray} (h : a = b) : Ending.returned (.string a) = .returned (.string b) := by rw [h]

theorem conv_one (w : World) (r : Nat) (z : Int) (h : r < 10) (hz : z = 48 + (r : Int)) :
    (convert 22 9 (.slice (some ⟨w.heap.size, 0, none⟩) 1 1)).run Tryz.prog (w.alloc (.cells #[.int .u8 z] 5)) = .ok (.string ⟨[UInt8.ofNat (48 + r)].toArray⟩) (w.alloc (.cells #[.int .u8 z] 5)) := by
  refine run_convert_bytes_back (w.alloc (.cells #[.int .u8 z] 5)) 22 9 5 ⟨w.heap.size, 0, none⟩ 1 [UInt8.ofNat (48 + r)] Tryz.underlying22 Tryz.underlying5 Tryz.underlying9 ?_
  intro j hj
  obtain rfl : j = 0 := by simpa using hj
  have hadd : (⟨w.heap.size, 0, none⟩ : Addr).add 0 = ⟨w.heap.size, 0, none⟩ := by unfold Addr.add; simp
  rw [hadd, (Blk.new w _ _).cell]
  simp
  omega

theorem cat (a l : List UInt8) : (⟨a.toArray⟩ : ByteArray) ++ ⟨l.toArray⟩ = ⟨(a ++ l).toArray⟩ := by
  apply ByteArray.ext
  simp [ByteArray.data_append]
theorem cat_digit (c : UInt8) (u : Nat) (l : List UInt8) (h : c = UInt8.ofNat (48 + u)) : Value.string ((⟨#[c]⟩ : ByteArray) ++ ⟨l.toArray⟩) = .string ⟨([UInt8.ofNat (48 + u)] ++ l).toArray⟩ := by
  rw [← h]
  exact congrArg Value.string (cat [c] l)
/-- What the loop holds: m is still to be written, l has been. -/
def Fm (n : Int) (w : World) (m : Nat) (l : List UInt8) (wr : World) : Prop := m ≤ n.natAbs ∧ dz n.natAbs = dz m ++ l ∧ Below w.heap.size w wr
theorem Fm.step {n : Int} {w : World} {m : Nat} {l : List UInt8} {wr : World} (h : Fm n w m l wr) (hm : m ≠ 0) (o : Obj) : Fm n w (m / 10) ([UInt8.ofNat (48 + m % 10)] ++ l) (wr.alloc o) :=
  ⟨by have := h.1; omega, by rw [h.2.1, dz_step m hm]; simp, h.2.2.alloc h.2.2.size o⟩
theorem Fm.len {n : Int} {w : World} {m : Nat} {l : List UInt8} {wr : World} (h : Fm n w m l wr) (h0 : -9223372036854775808 ≤ n) (h1 : n ≤ 9223372036854775807) : l.length ≤ 20 := by
  have h3 := dz_len n.natAbs (by omega)
  rw [h.2.1, List.length_append] at h3
  omega

set_option maxHeartbeats 400000 in
/-- What ParseUint hands back. -/
def PRet (l : List UInt8) (w : World) (e : Ending) (w' : World) : Prop := e = .returned (.tuple #[.int .i64 (pN l), .bool (pB l)]) ∧ Below w.heap.size w w'
theorem pret_no {l : List UInt8} {w w' : World} (h : ¬ Canon l) (hb : Below w.heap.size w w') : PRet l w (.returned (.tuple #[.int .i64 0, .bool false])) w' := by
  refine ⟨?_, hb⟩
  unfold pN pB
  rw [if_neg h, decide_eq_false h]
theorem pret_yes {l : List UInt8} {w w' : World} (h : Canon l) (hb : Below w.heap.size w w') : PRet l w (.returned (.tuple #[.int .i64 (valL l : Nat), .bool true])) w' := by
  refine ⟨?_, hb⟩
  unfold pN pB
  rw [if_pos h, decide_eq_true h]
/-- What ParseUint's loop knows of the first k bytes. -/
def Pk (s : ByteArray) (k : Nat) : Prop := k ≤ s.size ∧ ∀ c ∈ s.data.toList.take k, Dig c
theorem take_snoc (s : ByteArray) (k : Nat) (h : k < s.size) : s.data.toList.take (k + 1) = s.data.toList.take k ++ [s[k]] := by
  rw [List.take_succ_eq_append_getElem (by simpa using h)]; rfl
theorem Pk.step {s : ByteArray} {k : Nat} (h : Pk s k) (hk : k < s.size) (hd : Dig s[k]) : Pk s (k + 1) := by
  refine ⟨by omega, ?_⟩
  rw [take_snoc s k hk]
  intro c hc
  rcases List.mem_append.1 hc with hc | hc
  · exact h.2 c hc
  · simp at hc; subst hc; exact hd
theorem Pk.all {s : ByteArray} (h : Pk s s.size) : ∀ c ∈ s.data.toList, Dig c := by
  have := h.2
  rwa [List.take_of_length_le (by simp)] at this
theorem Pk.bad {s : ByteArray} {k : Nat} (hk : k < s.size) (hd : ¬ Dig s[k]) : ¬ Canon s.data.toList := fun h => hd (h.2.2.2.1 _ (by
  have : s[k] = s.data.toList[k]'(by simpa using hk) := by simp; rfl
  rw [this]; exact List.getElem_mem _))
theorem val_step (s : ByteArray) (k : Nat) (hk : k < s.size) : valL (s.data.toList.take (k + 1)) = valL (s.data.toList.take k) * 10 + (s[k].toNat - 48) := by
  rw [take_snoc s k hk, valL_snoc]
theorem val_bd {s : ByteArray} {k : Nat} (h : Pk s k) (h10 : s.size ≤ 10) : valL (s.data.toList.take k) ≤ 9999999999 := by
  have h1 := valL_lt _ h.2
  have h2 : (s.data.toList.take k).length ≤ 10 := by rw [List.length_take]; have := h.1; omega
  have h3 : 10 ^ (s.data.toList.take k).length ≤ 10 ^ 10 := Nat.pow_le_pow_right (by omega) h2
  omega

end Go.Proofs.YtifeilefdakapaaGreatDoor.Nm
