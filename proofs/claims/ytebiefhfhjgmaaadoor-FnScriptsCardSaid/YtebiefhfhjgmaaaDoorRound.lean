/- Plain facts: the text of an act parses to that act; no program in sight. -/
import Derived.Test.YtebiefhfhjgmaaaDoorJRead
namespace Go.Proofs.YtebiefhfhjgmaaaDoor.Rd
set_option maxRecDepth 100000
open Go Ac Mm Tx Sp Fp Jr Ja

theorem dec_dig (u : Nat) : ∀ c ∈ Lib.decDigits u, Dig c := by
  induction u using Nat.strongRecOn with
  | ind u ih =>
    by_cases h : u < 10
    · rw [Lib.decDigits_one h]
      intro c hc
      obtain rfl := List.mem_singleton.1 hc
      unfold Dig
      rw [UInt8.toNat_ofNat']
      omega
    · rw [dec_big u h]
      intro c hc
      rcases List.mem_append.1 hc with hc | hc
      · exact ih (u / 10) (by omega) c hc
      · obtain rfl := List.mem_singleton.1 hc
        unfold Dig
        rw [UInt8.toNat_ofNat']
        omega
theorem val_dec (u : Nat) : valL (Lib.decDigits u) = u := by
  induction u using Nat.strongRecOn with
  | ind u ih =>
    by_cases h : u < 10
    · rw [Lib.decDigits_one h]
      simp only [valL, List.foldl_cons, List.foldl_nil]
      rw [UInt8.toNat_ofNat']
      omega
    · rw [dec_big u h, valL_snoc, ih (u / 10) (by omega), UInt8.toNat_ofNat']
      omega
theorem dec_canon (u : Nat) (h : u ≤ 1000000000) : Canon (Lib.decDigits u) := by
  have h1 := (dec_val_iff (Lib.decDigits u) (dec_dig u)).1 (by rw [val_dec])
  refine ⟨h1.1, ?_, h1.2, dec_dig u, by rw [val_dec]; exact h⟩
  rw [Lib.decDigits_length]
  exact nDigits_le 10 u (by decide) (by omega)
/-- Words, a space between each two. -/
def joinS : List (List UInt8) → List UInt8
  | [] => []
  | [w] => w
  | w :: ws => w ++ 32 :: joinS ws
theorem joinS_cons (w : List UInt8) (ws : List (List UInt8)) : joinS (w :: ws) = w ++ ws.flatMap fun x => 32 :: x := by
  induction ws generalizing w with
  | nil => simp [joinS]
  | cons a t ih => rw [joinS]; rw [ih a]; simp; simp
def poss : Nat → List (List UInt8) → List (Nat × Nat)
  | _, [] => []
  | b, w :: ws => (b, b + w.length) :: poss (b + w.length + 1) ws
theorem sp_word {s : ByteArray} {p q : Nat} {L : List (Nat × Nat)} (h : sp s p = (L, p)) (hpq : p < q) (hq : q ≤ s.size) (hn : ∀ j, p ≤ j → j < q → s.data[j]? ≠ some 32) (he : s.size ≤ q ∨ s.data[q]? = some 32) : sp s (q + 1) = (L ++ [(p, q)], q + 1) := by
  have h1 : ∀ d, p + d ≤ q → sp s (p + d) = (L, p) := by
    intro d
    induction d with
    | zero => intro _; exact h
    | succ d ih =>
      intro hd
      rw [show p + (d + 1) = (p + d) + 1 by omega, sp_skip (by omega) (hn (p + d) (by omega) (by omega))]
      exact ih (by omega)
  have h2 := h1 (q - p) (by omega)
  rw [show p + (q - p) = q by omega] at h2
  have h3 := sp_cut he (by rw [h2]; exact hpq)
  rw [h3, h2]
theorem at_pre (pre l : List UInt8) (j : Nat) (h : pre.length ≤ j) : (pre ++ l)[j]? = l[j - pre.length]? := List.getElem?_append_right h
theorem spans_words {s : ByteArray} : ∀ (ws : List (List UInt8)) (pre : List UInt8) (L : List (Nat × Nat)), ws ≠ [] → (∀ w ∈ ws, w ≠ [] ∧ (32 : UInt8) ∉ w) → s.data.toList = pre ++ joinS ws → sp s pre.length = (L, pre.length) → spans s = L ++ poss pre.length ws
  | [], _, _, h, _, _, _ => absurd rfl h
  | [w], pre, L, _, hw, hs, hsp => by
    have hw0 := hw w (by simp)
    have hlen : s.size = pre.length + w.length := by
      have : s.data.toList.length = s.size := rfl
      rw [← this, hs, joinS, List.length_append]
    have hwl : 0 < w.length := List.length_pos_iff.2 hw0.1
    have h := sp_word (q := pre.length + w.length) hsp (by omega) (by omega) (fun j h1 h2 hc => by
      rw [← Array.getElem?_toList, hs, at_pre _ _ _ h1] at hc
      exact hw0.2 (List.mem_of_getElem? hc)) (.inl (by omega))
    unfold spans
    rw [hlen, h]
    rfl
  | w :: w' :: ws, pre, L, _, hw, hs, hsp => by
    have hw0 := hw w (by simp)
    have hwl : 0 < w.length := List.length_pos_iff.2 hw0.1
    have hj : joinS (w :: w' :: ws) = w ++ 32 :: joinS (w' :: ws) := rfl
    rw [hj] at hs
    have hlen : pre.length + w.length < s.size := by
      have : s.data.toList.length = s.size := rfl
      rw [← this, hs]; simp
    have h := sp_word (q := pre.length + w.length) hsp (by omega) (by omega) (fun j h1 h2 hc => by
      rw [← Array.getElem?_toList, hs, at_pre _ _ _ h1, List.getElem?_append_left (by omega)] at hc
      exact hw0.2 (List.mem_of_getElem? hc)) (.inr (by
      rw [← Array.getElem?_toList, hs, at_pre _ _ _ (by omega), List.getElem?_append_right (by omega), show pre.length + w.length - pre.length - w.length = 0 by omega]
      rfl))
    have hl : (pre ++ w ++ [32]).length = pre.length + w.length + 1 := by simp; omega
    have ih := spans_words (w' :: ws) (pre ++ w ++ [32]) (L ++ [(pre.length, pre.length + w.length)]) (by simp) (fun x hx => hw x (by simp at hx ⊢; exact .inr hx)) (by rw [hs]; simp) (by rw [hl]; exact h)
    rw [ih, hl]
    simp [poss]
theorem ext_list (s : ByteArray) (a b : Nat) : (s.extract a b).data.toList = (s.data.toList.drop a).take (b - a) := by
  rw [ByteArray.data_extract]
  simp
theorem cut_words {s : ByteArray} : ∀ (ws : List (List UInt8)) (pre : List UInt8), ws ≠ [] → s.data.toList = pre ++ joinS ws → (poss pre.length ws).map (cut s) = ws.map fun w => (⟨w.toArray⟩ : ByteArray)
  | [], _, h, _ => absurd rfl h
  | [w], pre, _, hs => by
    simp only [poss, List.map_cons, List.map_nil]
    congr 1
    unfold cut
    apply ByteArray.ext
    apply Array.ext'
    rw [ext_list, hs, joinS]
    simp
  | w :: w' :: ws, pre, _, hs => by
    have hj : joinS (w :: w' :: ws) = w ++ 32 :: joinS (w' :: ws) := rfl
    rw [hj] at hs
    have hl : (pre ++ w ++ [32]).length = pre.length + w.length + 1 := by simp; omega
    have ih := cut_words (s := s) (w' :: ws) (pre ++ w ++ [32]) (by simp) (by rw [hs]; simp)
    rw [hl] at ih
    rw [poss, List.map_cons, ih, List.map_cons]
    congr 1
    unfold cut
    apply ByteArray.ext
    apply Array.ext'
    rw [ext_list, hs]
    simp
theorem fields_words {s : ByteArray} {ws : List (List UInt8)} (h : ws ≠ []) (hw : ∀ w ∈ ws, w ≠ [] ∧ (32 : UInt8) ∉ w) (hs : s.data.toList = joinS ws) : fields s = ws.map (fun w => (⟨w.toArray⟩ : ByteArray)) ∧ (spans s).length = ws.length := by
  have h1 := spans_words ws [] [] h hw hs rfl
  have h2 := cut_words (s := s) ws [] h hs
  have h3 : fields s = ws.map (fun w => (⟨w.toArray⟩ : ByteArray)) := by
    unfold fields
    rw [h1]
    simpa using h2
  refine ⟨h3, ?_⟩
  have := congrArg List.length h3
  simpa [fields] using this
/-- The words of an act's text. -/
def tws (k : Nat) (z : List Int) : List (List UInt8) := (word k).data.toList :: (idx k).map fun i => Lib.itoa (gI z i)
theorem text_list (k : Nat) (z : List Int) : (text k z).data.toList = joinS (tws k z) := by
  unfold text strP pre tws
  rw [joinS_cons, List.take_of_length_le (Nat.le_refl _)]
  simp [List.flatMap_map]
theorem word_low (k : Nat) (h1 : 1 ≤ k) (h2 : k ≤ 10) : (word k).data.toList ≠ [] ∧ ∀ c ∈ (word k).data.toList, 97 ≤ c.toNat ∧ c.toNat ≤ 122 := by
  rcases kinds k h1 h2 with rfl | rfl | rfl | rfl | rfl | rfl | rfl | rfl | rfl | rfl <;> decide
theorem itoa_dig {n : Int} (h0 : 0 ≤ n) : ∀ c ∈ Lib.itoa n, 48 ≤ c.toNat ∧ c.toNat ≤ 57 := by
  obtain ⟨u, rfl⟩ : ∃ u : Nat, n = (u : Int) := ⟨n.toNat, by omega⟩
  rw [itoa_nat]
  exact dec_dig u
theorem itoa_canon {n : Int} (h0 : 0 ≤ n) (h1 : n ≤ 1000000000) : Canon (Lib.itoa n) ∧ ((valL (Lib.itoa n) : Nat) : Int) = n := by
  obtain ⟨u, rfl⟩ : ∃ u : Nat, n = (u : Int) := ⟨n.toNat, by omega⟩
  rw [itoa_nat]
  exact ⟨dec_canon u (by omega), by rw [val_dec]⟩
/-- Each byte of an act's text is a letter, a digit or a space. -/
theorem text_bytes {k : Nat} {z : List Int} (h : Okz z k) : ∀ c ∈ (text k z).data.toList, (97 ≤ c.toNat ∧ c.toNat ≤ 122) ∨ (48 ≤ c.toNat ∧ c.toNat ≤ 57) ∨ c.toNat = 32 := by
  intro c hc
  rw [text_list, tws, joinS_cons] at hc
  rcases List.mem_append.1 hc with hc | hc
  · exact .inl ((word_low k h.1 h.2.1).2 c hc)
  · obtain ⟨x, hx, hcx⟩ := List.mem_flatMap.1 hc
    obtain ⟨i, hi, rfl⟩ := List.mem_map.1 hx
    rcases List.mem_cons.1 hcx with rfl | hcx
    · exact .inr (.inr rfl)
    · exact .inr (.inl (itoa_dig (h.2.2.2.1 i hi).1 c hcx))
def zn (z : List Int) : List Int := [gI z 0, gI z 1, gI z 2, gI z 3, gI z 4]
theorem zn_gI (z : List Int) (j : Nat) (h : j < 5) : gI (zn z) j = gI z j := by
  rcases (show j = 0 ∨ j = 1 ∨ j = 2 ∨ j = 3 ∨ j = 4 by omega) with rfl | rfl | rfl | rfl | rfl <;> rfl
theorem zsP_text {k : Nat} {z : List Int} (h : Okz z k) : zn z = zsP k ((idx k).map fun i => (⟨(Lib.itoa (gI z i)).toArray⟩ : ByteArray)) (idx k).length := by
  have hv : ∀ i ∈ idx k, ((valL (Lib.itoa (gI z i)) : Nat) : Int) = gI z i := fun i hi => (itoa_canon (h.2.2.2.1 i hi).1 (h.2.2.2.1 i hi).2).2
  have h0 := h.2.2.1
  have hz := h.2.2.2.2
  rcases kinds k h.1 h.2.1 with rfl | rfl | rfl | rfl | rfl | rfl | rfl | rfl | rfl | rfl
  all_goals
    simp only [idx, List.mem_cons, List.not_mem_nil, or_false, forall_eq_or_imp, forall_eq] at hv
    have z1 := hz 1 (by decide) (by decide)
    have z2 := hz 2 (by decide) (by decide)
    have z3 := hz 3 (by decide) (by decide)
    have z4 := hz 4 (by decide) (by decide)
    simp only [idx, List.mem_cons, List.not_mem_nil, or_false, not_or] at z1 z2 z3 z4
    simp [zn, zsP, idx, h0, hv]
    first | done | simp_all
/-- The text of an act is that act. -/
theorem isAct_text {k : Nat} {z : List Int} (h : Okz z k) : IsAct (text k z) (zn z) := by
  have hw : ∀ w ∈ tws k z, w ≠ [] ∧ (32 : UInt8) ∉ w := fun w hw => by
    unfold tws at hw
    rcases List.mem_cons.1 hw with rfl | hw
    · have h1 := word_low k h.1 h.2.1
      exact ⟨h1.1, fun h32 => by have := h1.2 32 h32; revert this; decide⟩
    · obtain ⟨i, hi, rfl⟩ := List.mem_map.1 hw
      have h1 := itoa_canon (h.2.2.2.1 i hi).1 (h.2.2.2.1 i hi).2
      exact ⟨h1.1.1, fun h32 => by have := itoa_dig (h.2.2.2.1 i hi).1 32 h32; revert this; decide⟩
  obtain ⟨hf, hsl⟩ := fields_words (s := text k z) (by simp [tws]) hw (text_list k z)
  have hil := idx_len k
  refine ⟨⟨?_, ?_, by rw [hsl]; simp [tws]; omega⟩, k, ⟨h.1, h.2.1, by rw [hf]; rfl, by rw [hf]; simp [tws]⟩, ?_, ?_⟩
  · have := strP_size k z _ (by rw [List.take_of_length_le (Nat.le_refl _)]; exact h.2.2.2.1)
    exact Nat.le_trans this (by decide)
  · intro j c _ hc
    rw [← Array.getElem?_toList] at hc
    rcases text_bytes h c (List.mem_of_getElem? hc) with h1 | h1 | h1 <;> omega
  · intro r hr
    rw [hf] at hr
    simp only [tws, List.map_cons, List.tail_cons, List.map_map, List.mem_map] at hr
    obtain ⟨i, hi, rfl⟩ := hr
    exact (itoa_canon (h.2.2.2.1 i hi).1 (h.2.2.2.1 i hi).2).1
  · rw [hf]
    simp only [tws, List.map_cons, List.tail_cons, List.map_map]
    exact zsP_text h
end Go.Proofs.YtebiefhfhjgmaaaDoor.Rd
