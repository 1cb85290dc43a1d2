/- Plain facts: a journal of acts, cut anywhere, is read up to the last whole record. -/
import Derived.Test.YtebiefhfhjgmaaaDoorRound2
import Derived.Test.YtebiefhfhjgmaaaDoorDrawC
namespace Go.Proofs.YtebiefhfhjgmaaaDoor.Rd
set_option maxRecDepth 100000
open Go Ac Mm Tx Sp Fp Jr Ja Dr

/-- The text of an act of some kind. -/
def atx (z : List Int) : ByteArray := text (gI z 0).toNat z
theorem atx_eq {z : List Int} {k : Nat} (h : Okz z k) : atx z = text k z := by
  unfold atx
  rw [h.2.2.1, Int.toNat_natCast]
theorem okA_at {m : List (List Int)} (h : OkA m) {z : List Int} (hz : z ∈ m) : Okz z (gI z 0).toNat ∧ zn z = z := by
  obtain ⟨⟨k, hk⟩, hn⟩ := h z hz
  have : (gI z 0).toNat = k := by rw [hk.2.2.1, Int.toNat_natCast]
  rw [this]
  exact ⟨hk, hn⟩
def recL (z : List Int) : List UInt8 := (mk (atx z)).data.toList
def jl (m : List (List Int)) : List UInt8 := m.flatMap recL
def jb' (m : List (List Int)) : ByteArray := ⟨(jl m).toArray⟩
theorem jb_size (m : List (List Int)) : (jb' m).size = (jl m).length := rfl
theorem jl_snoc (m : List (List Int)) (z : List Int) : jl (m ++ [z]) = jl m ++ recL z := by simp [jl]
theorem recL_len {z : List Int} {k : Nat} (h : Okz z k) : (recL z).length ≤ 130 := by
  have h1 := mk_size (atx z)
  have h2 : (atx z).size ≤ 100 := by rw [atx_eq h]; exact strP_size k z _ (by rw [List.take_of_length_le (Nat.le_refl _)]; exact h.2.2.2.1)
  have h3 : (recL z).length = (mk (atx z)).size := rfl
  omega
theorem jl_len {m : List (List Int)} (h : OkA m) : (jl m).length ≤ m.length * 130 := by
  induction m with
  | nil => simp [jl]
  | cons z m ih =>
    have h1 := recL_len (okA_at h (z := z) (by simp)).1
    have h2 := ih fun y hy => h y (by simp [hy])
    have e : jl (z :: m) = recL z ++ jl m := by simp [jl]
    rw [e, List.length_append, List.length_cons]
    omega
/-- Where the i-th record ends. -/
def endI (m : List (List Int)) (i : Nat) : Nat := (jl (m.take i)).length
theorem take_snoc {m : List (List Int)} {i : Nat} (h : i < m.length) : m.take (i + 1) = m.take i ++ [m[i]] := List.take_succ_eq_append_getElem h
theorem jb_snoc {m : List (List Int)} {i : Nat} (h : i < m.length) : jb' (m.take (i + 1)) = jb' (m.take i) ++ mk (atx m[i]) := by
  apply ByteArray.ext
  apply Array.ext'
  rw [ByteArray.data_append, Array.toList_append]
  show jl _ = jl _ ++ recL _
  rw [take_snoc h, jl_snoc]
theorem okA_take {m : List (List Int)} (h : OkA m) (i : Nat) : OkA (m.take i) := fun z hz => h z (List.mem_of_mem_take hz)
theorem chain_rec {s : ByteArray} : ∀ (m : List (List Int)) (pre post : List UInt8), OkA m → s.data.toList = pre ++ jl m ++ post → Chain s pre.length m (pre.length + (jl m).length)
  | [], pre, post, _, _ => by simp [Chain, jl]
  | z :: m, pre, post, h, hs => by
    have hz := okA_at h (z := z) (by simp)
    have e : jl (z :: m) = recL z ++ jl m := by simp [jl]
    have e2 : recL z = (mk (text (gI z 0).toNat z)).data.toList := rfl
    rw [e] at hs
    have h1 := step_mk (s := s) (pre := pre) (post := jl m ++ post) hz.1 hz.2 (by rw [hs, ← e2]; simp)
    have hl : (pre ++ recL z).length = pre.length + (mk (text (gI z 0).toNat z)).size := by rw [List.length_append]; rfl
    have ih := chain_rec (s := s) m (pre ++ recL z) post (fun y hy => h y (by simp [hy])) (by rw [hs]; simp)
    refine ⟨_, h1, ?_⟩
    have hg : pre.length + (jl (z :: m)).length = (pre ++ recL z).length + (jl m).length := by rw [e, List.length_append, List.length_append]; omega
    rw [← hl, hg]
    exact ih
/-- The journal cut at place d, between the ends of record i and of the next. -/
theorem jof_cut {m : List (List Int)} (h : OkA m) (hm : m.length ≤ 29) {i d : Nat} (hi : i ≤ m.length) (h1 : endI m i ≤ d) (h2 : i = m.length ∨ d < endI m (i + 1)) : JOf ((jb' m).extract 0 d) (m.take i) (endI m i) := by
  have hlen := jl_len h
  have hl : ((jb' m).extract 0 d).data.toList = (jl m).take d := by rw [ext_list, List.drop_zero, Nat.sub_zero]; rfl
  have hs : ((jb' m).extract 0 d).size ≤ 8000 := by rw [ByteArray.size_extract, jb_size]; omega
  have hsplit : jl m = jl (m.take i) ++ jl (m.drop i) := by
    unfold jl; rw [← List.flatMap_append, List.take_append_drop]
  have hE : endI m i = (jl (m.take i)).length := rfl
  have hl2 : ((jb' m).extract 0 d).data.toList = [] ++ jl (m.take i) ++ (jl (m.drop i)).take (d - endI m i) := by
    rw [hl, hsplit, List.take_append, List.take_of_length_le (by omega), hE, List.nil_append]
  have hc := chain_rec (m.take i) [] _ (okA_take h i) hl2
  rw [List.length_nil, Nat.zero_add] at hc
  refine .inr ⟨hs, hc, stop_none fun j hj1 _ hj => ?_⟩
  rw [← Array.getElem?_toList, hl2, List.nil_append, List.getElem?_append_right (by rw [← hE]; exact hj1)] at hj
  rcases h2 with h2 | h2
  · rw [h2, List.drop_of_length_le (Nat.le_refl _)] at hj
    simp [jl] at hj
  · by_cases hil : i < m.length
    · have hdrop : m.drop i = m[i] :: m.drop (i + 1) := List.drop_eq_getElem_cons hil
      have hz := okA_at h (List.getElem_mem hil)
      have e : jl (m.drop i) = recL m[i] ++ jl (m.drop (i + 1)) := by unfold jl; rw [hdrop, List.flatMap_cons]
      have hnx : endI m (i + 1) = endI m i + (recL m[i]).length := by unfold endI; rw [take_snoc hil, jl_snoc, List.length_append]
      have e2 : recL m[i] = rb (text (gI m[i] 0).toNat m[i]) ++ [59] := mk_list _
      have e3 : (recL m[i]).length = (rb (text (gI m[i] 0).toNat m[i])).length + 1 := by rw [e2, List.length_append]; rfl
      rw [e, e2, List.append_assoc, List.take_append_of_le_length (by omega)] at hj
      have hm2 := List.mem_of_mem_take (List.mem_of_getElem? hj)
      exact rb_bytes hz.1 hm2
    · have : m.take (i + 1) = m.take i := by rw [List.take_of_length_le (by omega), List.take_of_length_le (by omega)]
      unfold endI at h2
      rw [this] at h2
      have : endI m i = (jl (m.take i)).length := rfl
      omega
theorem rows_get {m : List (List Int)} {i j : Nat} (hi : i < m.length) (hj : j < 5) : gI (rows m) (i * 5 + j) = gI m[i] j := by
  induction m generalizing i with
  | nil => simp at hi
  | cons z m ih =>
    have e : rows (z :: m) = [gI z 0, gI z 1, gI z 2, gI z 3, gI z 4] ++ rows m := by simp [rows]
    cases i with
    | zero =>
      rw [e]
      rcases (show j = 0 ∨ j = 1 ∨ j = 2 ∨ j = 3 ∨ j = 4 by omega) with rfl | rfl | rfl | rfl | rfl <;> rfl
    | succ i =>
      have h1 := ih (i := i) (by simpa using hi)
      rw [e]
      unfold gI at h1 ⊢
      rw [List.getD_eq_getElem?_getD, List.getElem?_append_right (by simp; omega)]
      rw [List.getD_eq_getElem?_getD] at h1
      have : (i + 1) * 5 + j - [z.getD 0 0, z.getD 1 0, z.getD 2 0, z.getD 3 0, z.getD 4 0].length = i * 5 + j := by simp; omega
      rw [this, h1]
      simp
end Go.Proofs.YtebiefhfhjgmaaaDoor.Rd
