/- Plain facts: a record in which one byte of the act is another letter is not read. -/
import Derived.Test.YtebiefhfhjgmaaaDoorRound2
namespace Go.Proofs.YtebiefhfhjgmaaaDoor.Rd
set_option maxRecDepth 100000
open Go Ac Mm Tx Sp Fp Jr Ja

def sumS (s : Int) (l : List UInt8) : Int := l.foldl (fun s c => (31 * s + (c.toNat : Int)) % 9973) s
theorem sumS_cons (s : Int) (c : UInt8) (l : List UInt8) : sumS s (c :: l) = sumS ((31 * s + (c.toNat : Int)) % 9973) l := rfl
theorem sumS_ne (l : List UInt8) : ∀ (s s' : Int), 0 ≤ s → s < 9973 → 0 ≤ s' → s' < 9973 → s ≠ s' → sumS s l ≠ sumS s' l := by
  induction l with
  | nil => intro s s' _ _ _ _ h; exact h
  | cons c l ih =>
    intro s s' h0 h1 h0' h1' h
    rw [sumS_cons, sumS_cons]
    exact ih _ _ (by omega) (by omega) (by omega) (by omega) (by omega)
theorem sumS_set (l : List UInt8) : ∀ (s : Int) (i : Nat) (y : UInt8), 0 ≤ s → s < 9973 → (∃ x, l[i]? = some x ∧ x ≠ y) → sumS s (l.set i y) ≠ sumS s l := by
  induction l with
  | nil => intro s i y _ _ ⟨x, hx, _⟩; simp at hx
  | cons c l ih =>
    intro s i y h0 h1 hx
    cases i with
    | zero =>
      obtain ⟨x, hx, hne⟩ := hx
      obtain rfl : c = x := by simpa using hx
      rw [List.set_cons_zero, sumS_cons, sumS_cons]
      have hb : c.toNat < 256 := c.toNat_lt
      have hb' : y.toNat < 256 := y.toNat_lt
      have hn : c.toNat ≠ y.toNat := fun e => hne (by rw [← UInt8.ofNat_toNat (x := c), e, UInt8.ofNat_toNat])
      exact sumS_ne l _ _ (by omega) (by omega) (by omega) (by omega) (by omega)
    | succ i =>
      rw [List.set_cons_succ, sumS_cons, sumS_cons]
      exact ih _ i y (by omega) (by omega) (by simpa using hx)
theorem itoa_inj {a b : Int} (ha : 0 ≤ a) (hb : 0 ≤ b) (h : Lib.itoa a = Lib.itoa b) : a = b := by
  obtain ⟨u, rfl⟩ : ∃ u : Nat, a = (u : Int) := ⟨a.toNat, by omega⟩
  obtain ⟨v, rfl⟩ : ∃ v : Nat, b = (v : Int) := ⟨b.toNat, by omega⟩
  rw [itoa_nat, itoa_nat] at h
  have := congrArg valL h
  rw [val_dec, val_dec] at this
  rw [this]
theorem split47 {a a' b b' : List UInt8} (ha : (47 : UInt8) ∉ a) (ha' : (47 : UInt8) ∉ a') (h : a ++ 47 :: b = a' ++ 47 :: b') : a = a' ∧ b = b' := by
  induction a generalizing a' with
  | nil =>
    cases a' with
    | nil => simp at h; exact ⟨rfl, h⟩
    | cons c t => simp at h; exact absurd (by rw [← h.1]; simp) ha'
  | cons x t ih =>
    cases a' with
    | nil => simp at h; exact absurd (by rw [h.1]; simp) ha
    | cons c t' =>
      simp at h
      obtain ⟨h1, h2⟩ := ih (a' := t') (fun e => ha (by simp [e])) (fun e => ha' (by simp [e])) (by simpa using h.2)
      exact ⟨by rw [h.1, h1], h2⟩
theorem text_no (c : UInt8) (hc : c = 47 ∨ c = 59) {k : Nat} {z : List Int} (h : Okz z k) : c ∉ (text k z).data.toList := fun hm => by
  rcases hc with rfl | rfl <;> rcases text_bytes h _ hm with h1 | h1 | h1 <;> revert h1 <;> decide
theorem mem_set {l : List UInt8} {i : Nat} {y c : UInt8} (h : c ∈ l.set i y) : c ∈ l ∨ c = y := by
  rcases List.mem_or_eq_of_mem_set h with h | h
  · exact .inl h
  · exact .inr h
/-- The record with byte i of the act turned to the letter y is no record. -/
theorem jof_bad {k : Nat} {z : List Int} (h : Okz z k) {i : Nat} {y : UInt8} (hi : i < (text k z).size) (hy : 97 ≤ y.toNat ∧ y.toNat ≤ 122) (hne : (text k z).data[i]? ≠ some y) {s : ByteArray} (hs : s.data.toList = (mk (text k z)).data.toList.set i y) : JOf s [] 0 := by
  have h1 := mk_size (text k z)
  have h2 : (text k z).size ≤ 100 := strP_size k z _ (by rw [List.take_of_length_le (Nat.le_refl _)]; exact h.2.2.2.1)
  have hl : (text k z).data.toList.length = (text k z).size := rfl
  have hsl : s.data.toList.length = s.size := rfl
  have hss : s.size = (mk (text k z)).size := by
    have : (mk (text k z)).data.toList.length = (mk (text k z)).size := rfl
    rw [← hsl, hs, List.length_set, this]
  have hy47 : y ≠ 47 := fun e => by subst e; revert hy; decide
  have hy59 : y ≠ 59 := fun e => by subst e; revert hy; decide
  refine .inr ⟨by omega, rfl, ?_⟩
  rintro z' e ⟨q, _, _, hq, h59, hno, hrec⟩
  rw [mk_list, List.set_append_left _ _ (by rw [rb, List.length_append]; omega)] at hs
  have hrl : (rb (text k z)).length + 1 = s.size := by rw [hss, mk_len]
  -- the first ';' is the last byte
  have hbno : (59 : UInt8) ∉ (rb (text k z)).set i y := fun hm => by
    rcases mem_set hm with hm | hm
    · exact rb_bytes h hm
    · exact hy59 hm.symm
  have hq' : q = (rb (text k z)).length := by
    rw [← Array.getElem?_toList, hs] at h59
    rcases Nat.lt_or_ge q (rb (text k z)).length with hlt | hge
    · rw [List.getElem?_append_left (by simpa using hlt)] at h59
      exact absurd (List.mem_of_getElem? h59) hbno
    · omega
  have hr : (s.extract 0 q).data.toList = (rb (text k z)).set i y := by
    rw [ext_list, hs, List.drop_zero, Nat.sub_zero, hq', ← List.length_set (a := y) (i := i), List.take_left]
  obtain ⟨j, t, _, _, hft, hmk⟩ := hrec
  rcases hft with ⟨k', hk', rfl, _⟩ | ⟨_, _, hb⟩
  rotate_left
  · cases hb
  have e1 := congrArg (fun b : ByteArray => b.data.toList) hmk
  simp only [ByteArray.data_append, Array.toList_append, hr, mk_list] at e1
  have e2 : rb (text k' z') = (rb (text k z)).set i y := List.append_inj_left' e1 rfl
  unfold rb at e2
  rw [List.set_append_left _ _ (by omega)] at e2
  obtain ⟨e3, e4⟩ := split47 (text_no 47 (.inl rfl) hk') (fun hm => by
    rcases mem_set hm with hm | hm
    · exact text_no 47 (.inl rfl) h hm
    · exact hy47 hm.symm) e2
  have e5 := itoa_inj (Sm.sumL_bd _).1 (Sm.sumL_bd _).1 e4
  rw [e3] at e5
  refine sumS_set (text k z).data.toList 0 i y (by decide) (by decide) ?_ e5
  have hx : (text k z).data.toList[i]? = some ((text k z).data.toList[i]'(by omega)) := List.getElem?_eq_getElem (by omega)
  refine ⟨_, hx, fun e => hne ?_⟩
  rw [← Array.getElem?_toList, hx, e]
end Go.Proofs.YtebiefhfhjgmaaaDoor.Rd
