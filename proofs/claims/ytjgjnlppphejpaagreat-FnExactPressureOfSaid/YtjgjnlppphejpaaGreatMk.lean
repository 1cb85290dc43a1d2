/- The reference and the program mean the same by a valid heap. No condition. -/
import Derived.Test.YtjgjnlppphejpaaGreatMj

namespace Go.Proofs.YtjgjnlppphejpaaGreat.Ab
/- lists -/
theorem nth_inj {α : Type} [Inhabited α] {xs : List α} {f : α → Int} (hn : (xs.map f).Nodup) {i j : Nat} (hi : i < xs.length) (hj : j < xs.length) (h : f (nth xs i) = f (nth xs j)) : i = j := by
  have h1 := List.pairwise_iff_getElem.1 hn
  rcases Nat.lt_trichotomy i j with hlt | rfl | hlt
  · have := h1 i j (by simpa using hi) (by simpa using hj) hlt
    simp only [List.getElem_map] at this
    rw [nth_of (List.getElem?_eq_getElem hi), nth_of (List.getElem?_eq_getElem hj)] at h
    exact absurd h this
  · rfl
  · have := h1 j i (by simpa using hj) (by simpa using hi) hlt
    simp only [List.getElem_map] at this
    rw [nth_of (List.getElem?_eq_getElem hi), nth_of (List.getElem?_eq_getElem hj)] at h
    exact absurd h.symm this
theorem mem_nth {α : Type} [Inhabited α] {xs : List α} {x : α} (h : x ∈ xs) : ∃ i, i < xs.length ∧ nth xs i = x := by
  obtain ⟨i, hi⟩ := List.mem_iff_getElem?.1 h
  exact ⟨i, (List.getElem?_eq_some_iff.1 hi).1, nth_of hi⟩
theorem sub_of_len : ∀ {H L : List Int}, H.Nodup → (∀ x ∈ H, x ∈ L) → L.length ≤ H.length → ∀ x ∈ L, x ∈ H
  | [], L, _, _, hl, x, hx => by
    have : L = [] := List.eq_nil_of_length_eq_zero (by simpa using hl)
    subst this; exact hx
  | y :: H, L, hn, hs, hl, x, hx => by
    have hy : y ∈ L := hs y (List.mem_cons_self ..)
    have hn2 := List.nodup_cons.1 hn
    by_cases hxy : x = y
    · subst hxy; exact List.mem_cons_self ..
    · refine List.mem_cons_of_mem _ (sub_of_len (L := L.erase y) hn2.2 (fun z hz => ?_) ?_ x ((List.mem_erase_of_ne hxy).2 hx))
      · exact (List.mem_erase_of_ne (fun e : z = y => hn2.1 (by rw [← e]; exact hz))).2 (hs z (List.mem_cons_of_mem _ hz))
      · rw [List.length_erase_of_mem hy]
        simp only [List.length_cons] at hl
        omega
theorem count_one {H L : List Int} (hL : L.Nodup) (hs : ∀ x ∈ H, x ∈ L) : (H.Nodup ∧ H.length = L.length) ↔ ∀ a ∈ L, H.count a = 1 := by
  constructor
  · rintro ⟨hn, hl⟩ a ha
    have hm := sub_of_len hn hs (by omega) a ha
    have h1 := List.nodup_iff_count.1 hn a
    have h2 := List.count_pos_iff.2 hm
    omega
  · intro hc
    have hn : H.Nodup := List.nodup_iff_count.2 fun a => by
      by_cases ha : a ∈ H
      · rw [hc a (hs a ha)]; exact Nat.le_refl 1
      · rw [List.count_eq_zero_of_not_mem ha]; exact Nat.zero_le _
    refine ⟨hn, ?_⟩
    have : H.Perm L := List.perm_iff_count.2 fun a => by
      by_cases ha : a ∈ L
      · rw [hc a ha]
        have h1 := List.nodup_iff_count.1 hL a
        have h2 := List.count_pos_iff.2 ha
        omega
      · rw [List.count_eq_zero_of_not_mem ha, List.count_eq_zero_of_not_mem fun h => ha (hs a h)]
    exact this.length_eq
/- layouts -/
theorem mem_lpgs {l : DLarge} {n : Nat} {p : Int} : p ∈ lpgs l n ↔ ∃ k : Nat, k < n ∧ p = l.Page + (k : Nat) := by
  unfold lpgs; simp only [List.mem_map, List.mem_range]
  constructor
  · rintro ⟨k, hk, rfl⟩; exact ⟨k, hk, rfl⟩
  · rintro ⟨k, hk, rfl⟩; exact ⟨k, hk, rfl⟩
structure Lay (sp : List DSpan) (la : List DLarge) : Prop where
  sok : ∀ s ∈ sp, spanOk s = true
  lok : ∀ l ∈ la, largeOk l = true
  nd : (sp.map (·.Page)).Nodup
  dis : ∀ s ∈ sp, ∀ l ∈ la, ∀ k : Nat, k < l.Pages.toNat → s.Page ≠ l.Page + (k : Nat)
  one : ∀ i j, i < la.length → j < la.length → ∀ k k' : Nat, k < (nth la i).Pages.toNat → k' < (nth la j).Pages.toNat → (nth la i).Page + (k : Nat) = (nth la j).Page + (k' : Nat) → i = j
theorem Lay.of {sp : List DSpan} {la : List DLarge} (h : layoutOk sp la = true) : Lay sp la := by
  obtain ⟨h1, h2, h3⟩ := layoutOk_facts h
  unfold pgs at h3
  rw [List.nodup_append] at h3
  obtain ⟨h4, h5, h6⟩ := h3
  have h7 := List.pairwise_flatMap.1 h5
  refine ⟨fun s hs => List.all_eq_true.1 h1 s hs, fun l hl => List.all_eq_true.1 h2 l hl, h4, fun s hs l hl k hk e => ?_, fun i j hi hj k k' hk hk' e => ?_⟩
  · exact h6 _ (List.mem_map.2 ⟨s, hs, rfl⟩) _ (List.mem_flatMap.2 ⟨l, hl, mem_lpgs.2 ⟨k, hk, rfl⟩⟩) e
  · have h8 := List.pairwise_iff_getElem.1 h7.2
    have ei := nth_of (List.getElem?_eq_getElem hi)
    have ej := nth_of (List.getElem?_eq_getElem hj)
    rw [ei] at hk e
    rw [ej] at hk' e
    rcases Nat.lt_trichotomy i j with hlt | heq | hlt
    · exact absurd e (h8 i j hi hj hlt _ (mem_lpgs.2 ⟨k, hk, rfl⟩) _ (mem_lpgs.2 ⟨k', hk', rfl⟩))
    · exact heq
    · exact absurd e.symm (h8 j i hj hi hlt _ (mem_lpgs.2 ⟨k', hk', rfl⟩) _ (mem_lpgs.2 ⟨k, hk, rfl⟩))
/- addresses in use -/
theorem slotIn_iff {s : DSpan} {a : Int} (hs : spanOk s = true) : slotIn s a = true ↔ 16 * s.Page ≤ a ∧ a ≤ 16 * s.Page + 15 := by
  unfold slotIn; rw [hs]; simp
theorem denotes_span' {sp : List DSpan} {la : List DLarge} (hL : Lay sp la) {a : Int} {i : Nat} (hi : i < sp.length) (h : 16 * (nth sp i).Page ≤ a ∧ a ≤ 16 * (nth sp i).Page + 15) : denotes sp la a = ownS i (nth sp i) a := by
  refine denotes_span hi ((slotIn_iff (hL.sok _ (nth_mem hi))).2 h) fun j z hj hz => ?_
  cases e : slotIn z a with
  | false => rfl
  | true =>
    exfalso
    have hjl := (List.getElem?_eq_some_iff.1 hz).1
    have h2 := (slotIn_iff (hL.sok z (List.mem_of_getElem? hz))).1 e
    have hzj := nth_of hz
    subst hzj
    have := nth_inj (f := (·.Page)) hL.nd hi hjl (by omega)
    omega
theorem noSpan {sp : List DSpan} {la : List DLarge} (hL : Lay sp la) {a : Int} (h : ∀ i, i < sp.length → ¬ (16 * (nth sp i).Page ≤ a ∧ a ≤ 16 * (nth sp i).Page + 15)) : ∀ (j : Nat) (z : DSpan), j < sp.length → sp[j]? = some z → slotIn z a = false := by
  intro j z hj hz
  cases e : slotIn z a with
  | false => rfl
  | true =>
    have h2 := (slotIn_iff (hL.sok z (List.mem_of_getElem? hz))).1 e
    have hzj := nth_of hz
    subst hzj
    exact absurd h2 (h j hj)
theorem live_iff {sp : List DSpan} {la : List DLarge} (hL : Lay sp la) (a : Int) : a ∈ live0 sp la ↔ a ∈ liveS sp la := by
  have hS : a ∈ liveS sp la ↔ ∃ n : Nat, n < 512 ∧ liveAt sp la n = true ∧ (n : Int) = a := by
    unfold liveS liveN
    simp only [List.mem_map, List.mem_filter, List.mem_range]
    constructor
    · rintro ⟨n, ⟨h1, h2⟩, h3⟩; exact ⟨n, h1, h2, h3⟩
    · rintro ⟨n, h1, h2, h3⟩; exact ⟨n, ⟨h1, h2⟩, h3⟩
  rw [hS]
  unfold live0 spansLive
  rw [List.mem_append, List.mem_flatMap, List.mem_map]
  constructor
  · rintro (⟨s, hs, ha⟩ | ⟨l, hl, rfl⟩)
    · obtain ⟨i, hi, rfl⟩ := mem_nth hs
      unfold spanLive at ha
      obtain ⟨k, hk, rfl⟩ := List.mem_map.1 ha
      obtain ⟨hk1, hk2⟩ := List.mem_filter.1 hk
      have hk1 := List.mem_range.1 hk1
      have hc := spanOk_class (hL.sok _ hs)
      have hsc := slots_csz ⟨hc.2.2.1, hc.2.2.2⟩
      have hsb := slots_bd (nth sp i).Class
      unfold slotAddr
      have hbd : 0 ≤ (k : Int) * csz (nth sp i).Class ∧ (k : Int) * csz (nth sp i).Class ≤ 15 := by
        rcases csz_cases ⟨hc.2.2.1, hc.2.2.2⟩ with e | e | e | e <;> rw [e] at hsc ⊢ <;> omega
      have hd := denotes_span' hL hi (a := 16 * (nth sp i).Page + (k : Nat) * csz (nth sp i).Class) (by omega)
      have hq : (16 * (nth sp i).Page + (k : Nat) * csz (nth sp i).Class - 16 * (nth sp i).Page) / csz (nth sp i).Class = (k : Nat) ∧ (16 * (nth sp i).Page + (k : Nat) * csz (nth sp i).Class - 16 * (nth sp i).Page) % csz (nth sp i).Class = 0 := by
        rcases csz_cases ⟨hc.2.2.1, hc.2.2.2⟩ with e | e | e | e <;> rw [e] <;> omega
      refine ⟨(16 * (nth sp i).Page + (k : Nat) * csz (nth sp i).Class).toNat, by omega, ?_, by omega⟩
      have hcast : (((16 * (nth sp i).Page + (k : Nat) * csz (nth sp i).Class).toNat : Nat) : Int) = 16 * (nth sp i).Page + (k : Nat) * csz (nth sp i).Class := by omega
      unfold liveAt
      rw [hcast, hd]
      simp only [ownS, hq.1, hq.2, hk2]
      rfl
    · obtain ⟨i, hi, rfl⟩ := mem_nth hl
      have hf := largeOk_pages (hL.lok _ hl)
      have hf2 := largeOk_facts (hL.lok _ hl)
      have h1 := noSpan hL (a := 16 * (nth la i).Page) fun j hj he => hL.dis _ (nth_mem hj) _ hl 0 (by omega) (by omega)
      have hh : largeHas (nth la i) (16 * (nth la i).Page) = true := by
        unfold largeHas; rw [hL.lok _ hl, decide_eq_true (by omega)]; rfl
      have hd := denotes_large (a := 16 * (nth la i).Page) (Nat.le_refl _) h1 hi hh fun j z hj hz => by
        cases e : largeHas z (16 * (nth la i).Page) with
        | false => rfl
        | true =>
          exfalso
          have hjl := (List.getElem?_eq_some_iff.1 hz).1
          have hzm := List.mem_of_getElem? hz
          have hzj := nth_of hz
          subst hzj
          have hf3 := largeOk_pages (hL.lok _ hzm)
          have hlo := hL.lok _ hzm
          unfold largeOk at hlo
          rw [decide_eq_true_eq] at hlo
          unfold largeHas at e
          rw [Bool.and_eq_true, decide_eq_true_eq] at e
          have := hL.one i j hi hjl 0 ((nth la i).Page - (nth la j).Page).toNat (by omega) (by omega) (by omega)
          omega
      refine ⟨(16 * (nth la i).Page).toNat, by omega, ?_, by omega⟩
      have hcast : (((16 * (nth la i).Page).toNat : Nat) : Int) = 16 * (nth la i).Page := by omega
      unfold liveAt
      rw [hcast, hd]
      simp
  · rintro ⟨n, hn, hl, rfl⟩
    cases h1 : sp.findIdx? (slotIn · (n : Nat)) with
    | some i =>
      obtain ⟨hi, hp, -⟩ := List.findIdx?_eq_some_iff_getElem.1 h1
      have hi' := nth_of (List.getElem?_eq_getElem hi)
      rw [← hi'] at hp
      have hs := hL.sok _ (nth_mem hi)
      have h2 := (slotIn_iff hs).1 hp
      have hc := spanOk_class hs
      have hsc := slots_csz ⟨hc.2.2.1, hc.2.2.2⟩
      have hd : denotes sp la (n : Nat) = ownS i (nth sp i) (n : Nat) := by unfold denotes; rw [h1]
      rw [liveAt_w hd] at hl
      simp only [Bool.and_eq_true, Bool.or_eq_true, decide_eq_true_eq] at hl
      simp only [ownS] at hl
      cases hh : hasSlot (nth sp i).Bits (((n : Int) - 16 * (nth sp i).Page) / csz (nth sp i).Class) with
      | false => rw [hh] at hl; simp at hl
      | true =>
        have hz : ((n : Int) - 16 * (nth sp i).Page) % csz (nth sp i).Class = 0 := hl.1
        refine .inl ⟨nth sp i, nth_mem hi, ?_⟩
        unfold spanLive
        refine List.mem_map.2 ⟨(((n : Int) - 16 * (nth sp i).Page) / csz (nth sp i).Class).toNat, List.mem_filter.2 ⟨List.mem_range.2 ?_, ?_⟩, ?_⟩
        · rcases csz_cases ⟨hc.2.2.1, hc.2.2.2⟩ with e | e | e | e <;> rw [e] at hsc hz ⊢ <;> omega
        · have : ((((n : Int) - 16 * (nth sp i).Page) / csz (nth sp i).Class).toNat : Int) = ((n : Int) - 16 * (nth sp i).Page) / csz (nth sp i).Class := by
            rcases csz_cases ⟨hc.2.2.1, hc.2.2.2⟩ with e | e | e | e <;> rw [e] <;> omega
          rw [this]; exact hh
        · unfold slotAddr
          rcases csz_cases ⟨hc.2.2.1, hc.2.2.2⟩ with e | e | e | e <;> rw [e] at hz ⊢ <;> omega
    | none =>
      cases h2 : la.findIdx? (largeHas · (n : Nat)) with
      | some i =>
        obtain ⟨hi, hp, -⟩ := List.findIdx?_eq_some_iff_getElem.1 h2
        have hd : denotes sp la (n : Nat) = ⟨3, i, 0, (n : Nat) - 16 * (nth la i).Page⟩ := by unfold denotes; rw [h1, h2]
        rw [liveAt_w hd] at hl
        simp only [Bool.and_eq_true, decide_eq_true_eq] at hl
        exact .inr ⟨nth la i, nth_mem hi, by have := hl.1; omega⟩
      | none =>
        have hd : denotes sp la (n : Nat) = ⟨0, 0, 0, 0⟩ := by unfold denotes; rw [h1, h2]
        rw [liveAt_w hd] at hl; simp at hl
end Go.Proofs.YtjgjnlppphejpaaGreat.Ab
/- The reference and the program mean the same by a valid heap: holders, spans on one frame, the whole. No condition. -/
namespace Go.Proofs.YtjgjnlppphejpaaGreat.Ab
theorem live_of {sp : List DSpan} {la : List DLarge} (hL : Lay sp la) {a : Int} (h0 : (denotes sp la a).Offset = 0) (hk : (denotes sp la a).Kind = 1 ∨ (denotes sp la a).Kind = 3) : a ∈ liveS sp la := by
  have hb : 0 ≤ a ∧ a < 512 := by
    unfold denotes at h0 hk
    cases h1 : sp.findIdx? (slotIn · a) with
    | some i =>
      obtain ⟨hi, hp, -⟩ := List.findIdx?_eq_some_iff_getElem.1 h1
      have hm := List.getElem_mem hi
      have h2 := (slotIn_iff (hL.sok _ hm)).1 hp
      have hc := spanOk_class (hL.sok _ hm)
      omega
    | none =>
      rw [h1] at h0 hk
      cases h2 : la.findIdx? (largeHas · a) with
      | some i =>
        obtain ⟨hi, -⟩ := List.findIdx?_eq_some_iff_getElem.1 h2
        rw [h2] at h0
        have hf := largeOk_pages (hL.lok _ (nth_mem hi))
        simp only at h0
        omega
      | none => rw [h2] at hk; simp at hk
  have hc : ((a.toNat : Nat) : Int) = a := by omega
  unfold liveS liveN
  refine List.mem_map.2 ⟨a.toNat, List.mem_filter.2 ⟨List.mem_range.2 (by omega), ?_⟩, hc⟩
  unfold liveAt
  rw [hc]
  simp only [Bool.and_eq_true, Bool.or_eq_true, decide_eq_true_eq]
  exact ⟨h0, hk⟩
theorem liveS_nodup (sp : List DSpan) (la : List DLarge) : (liveS sp la).Nodup := by
  unfold liveS liveN List.Nodup
  rw [List.pairwise_map]
  exact (List.nodup_range.sublist List.filter_sublist).imp fun h e => h (by omega)
theorem held_live {h : DHeap} (hL : Lay h.Spans h.Larges) {a c : Int} (hh : slotHeld h a c = true) : a ∈ liveS h.Spans h.Larges := by
  unfold slotHeld at hh
  simp only [Bool.and_eq_true, decide_eq_true_eq] at hh
  exact live_of hL hh.1.2 (.inl hh.1.1)
theorem obj_live {h : DHeap} (hL : Lay h.Spans h.Larges) {o : DObj} (hh : ownsObj h o = true) : o.Addr ∈ liveS h.Spans h.Larges := by
  unfold ownsObj at hh
  simp only [Bool.and_eq_true, Bool.or_eq_true, decide_eq_true_eq] at hh
  exact live_of hL hh.1 (hh.2.elim (fun e => .inl e.1) (fun e => .inr e.1))
theorem count_same (h : DHeap) (a : Int) : (holdersI h).count a = (holders h).count a := by
  unfold holdersI holders
  simp only [List.count_append]
  omega
theorem heldAll_iff (h : DHeap) : heldAll h = true ↔ (h.Caches.all (cacheHeld h) = true ∧ h.Quar.Lst.all (quarHeld h) = true) ∧ (inFlight h.Mail).all (flyHeld h) = true := by
  unfold heldAll; simp only [Bool.and_eq_true]
theorem holders_live {h : DHeap} (hL : Lay h.Spans h.Larges) (ho : objsAll h = true) (hh : heldAll h = true) : ∀ a ∈ holders h, a ∈ liveS h.Spans h.Larges := by
  obtain ⟨⟨h1, h2⟩, h3⟩ := (heldAll_iff h).1 hh
  intro a ha
  unfold holders at ha
  simp only [List.mem_append] at ha
  rcases ha with ((ha | ha) | ha) | ha
  · obtain ⟨o, hom, rfl⟩ := List.mem_map.1 ha
    obtain ⟨i, hi, rfl⟩ := mem_nth hom
    have h4 := allN_at ho hi
    unfold objAt at h4
    rw [Bool.and_eq_true] at h4
    exact obj_live hL h4.2
  · unfold cacheAddrs at ha
    obtain ⟨c, hc, ha⟩ := List.mem_flatMap.1 ha
    obtain ⟨l, hl, ha⟩ := List.mem_flatten.1 ha
    obtain ⟨k, hk, rfl⟩ := mem_nth hl
    have h4 := List.all_eq_true.1 h1 c hc
    unfold cacheHeld at h4
    have h5 := List.all_eq_true.1 (show (nth c.Lists k).all _ = true from allN_at h4 hk) a ha
    exact held_live hL h5
  · obtain ⟨x, hx, rfl⟩ := List.mem_map.1 ha
    exact held_live hL (List.all_eq_true.1 h2 x hx)
  · exact held_live hL (List.all_eq_true.1 h3 a ha)
theorem once_same {h : DHeap} (hlay : layoutOk h.Spans h.Larges = true) (ho : objsAll h = true) : (sinceOk h && onceS h) = onceI h := by
  have hL := Lay.of hlay
  have hq : (sinceOk h = true ∧ h.Quar.Lst.all (quarHeld h) = true) ↔ h.Quar.Lst.all (quarI h) = true := by
    unfold sinceOk quarI
    simp only [List.all_eq_true, Bool.and_eq_true]
    exact ⟨fun e x hx => ⟨e.2 x hx, e.1 x hx⟩, fun e => ⟨fun x hx => (e x hx).2, fun x hx => (e x hx).1⟩⟩
  have hI : onceI h = true ↔ ((h.Caches.all (cacheHeld h) = true ∧ h.Quar.Lst.all (quarI h) = true) ∧ (inFlight h.Mail).all (flyHeld h) = true) ∧ ∀ a ∈ liveS h.Spans h.Larges, (holders h).count a = 1 := by
    unfold onceI
    simp only [Bool.and_eq_true]
    refine and_congr Iff.rfl ?_
    simp only [List.all_eq_true, decide_eq_true_eq, count_same]
    unfold liveI sorted
    simp only [List.mem_mergeSort, live_iff hL]
  have hSS : onceS h = true ↔ heldAll h = true ∧ ((holders h).Nodup ∧ (holders h).length = (liveS h.Spans h.Larges).length) := by
    unfold onceS
    simp only [Bool.and_eq_true, decide_eq_true_eq, and_assoc]
  rw [Bool.eq_iff_iff, Bool.and_eq_true, hI, hSS]
  constructor
  · rintro ⟨h1, h2, h3⟩
    obtain ⟨⟨h4, h5⟩, h6⟩ := (heldAll_iff h).1 h2
    exact ⟨⟨⟨h4, hq.1 ⟨h1, h5⟩⟩, h6⟩, (count_one (liveS_nodup ..) (holders_live hL ho h2)).1 h3⟩
  · rintro ⟨⟨⟨h1, h2⟩, h3⟩, h4⟩
    obtain ⟨h5, h6⟩ := hq.2 h2
    have h7 : heldAll h = true := (heldAll_iff h).2 ⟨⟨h1, h6⟩, h3⟩
    exact ⟨h5, h7, (count_one (liveS_nodup ..) (holders_live hL ho h7)).2 h4⟩
/- spans on one frame -/
theorem mesh_comm (s t : DSpan) : meshable s t = meshable t s := by
  unfold meshable
  rw [Bool.and_comm (spanOk s)]
  congr 1
  refine decide_eq_decide.2 ?_
  rw [Nat.and_comm]
  exact ⟨fun h => ⟨h.1.symm, fun e => h.2.1 e.symm, h.2.2⟩, fun h => ⟨h.1.symm, fun e => h.2.1 e.symm, h.2.2⟩⟩
theorem mem_pagesOn {t : DTable} {f : Int} {p : Nat} : (p : Int) ∈ pagesOn t f ↔ p < t.Entries.length ∧ (nth t.Entries p).Mode ≠ 0 ∧ (nth t.Entries p).Frame = f := by
  unfold pagesOn pgsOn
  simp only [List.mem_map, List.mem_filter, List.mem_range]
  constructor
  · rintro ⟨n, ⟨h1, h2⟩, h3⟩
    obtain rfl : n = p := by omega
    unfold onF at h2
    rw [decide_eq_true_eq] at h2
    exact ⟨h1, h2⟩
  · rintro ⟨h1, h2⟩
    exact ⟨p, ⟨h1, by unfold onF; rw [decide_eq_true_eq]; exact h2⟩, rfl⟩
theorem pagesOn_nat {t : DTable} {f q : Int} (h : q ∈ pagesOn t f) : ∃ p : Nat, q = (p : Nat) := by
  unfold pagesOn pgsOn at h
  obtain ⟨n, -, rfl⟩ := List.mem_map.1 h
  exact ⟨n, rfl⟩
theorem pages0_facts {h : DHeap} (hp : pages0 h = true) : (∀ i, i < h.Larges.length → ∀ k : Nat, k < (nth h.Larges i).Pages.toNat → (framePages h ((nth h.Larges i).Page + (k : Nat))).length = 1) ∧ (∀ p ∈ pgs h.Spans h.Larges, p < pgN h) ∧ ∀ p : Nat, p < pgN h → ((nth (tbl h).Entries p).Mode ≠ 0 ↔ (p : Int) ∈ pgs h.Spans h.Larges) := by
  unfold pages0 at hp
  simp only [Bool.and_eq_true] at hp
  obtain ⟨⟨⟨-, h1⟩, h2⟩, h3⟩ := hp
  refine ⟨fun i hi k hk => ?_, fun p hp => ?_, fun p hp => ?_⟩
  · have h4 := allN_at h1 hi
    unfold lgAt at h4
    rw [Bool.and_eq_true] at h4
    have h5 := allN_at h4.2 hk
    unfold onePg at h5
    rw [decide_eq_true_eq] at h5
    exact h5
  · have := List.all_eq_true.1 h2 p hp
    rw [decide_eq_true_eq] at this
    exact this
  · have h4 := allN_at h3 hp
    unfold pgAt at h4
    rw [Bool.and_eq_true, decide_eq_true_eq] at h4
    exact h4.1
theorem pe_at {h : DHeap} {p : Nat} (hp : p < pgN h) : pageEntry (tbl h) (p : Nat) = nth (tbl h).Entries p := pageEntry_nat hp
theorem framePages_at {h : DHeap} {p : Nat} (hp : p < pgN h) (hm : (nth (tbl h).Entries p).Mode ≠ 0) : framePages h (p : Nat) = pagesOn (tbl h) (nth (tbl h).Entries p).Frame := by
  unfold framePages
  rw [show h.Kernel.Machine.Table = tbl h from rfl, pe_at hp, if_neg hm]
theorem spanOn_at {h : DHeap} (hL : Lay h.Spans h.Larges) {j : Nat} (hj : j < h.Spans.length) : spanOn h (nth h.Spans j).Page = (j : Nat) := by
  unfold spanOn
  refine fstIx_yes (get_nth hj) (by unfold atPage; simp) fun k z hk hz => ?_
  have hzk := nth_of hz
  have hkl := (List.getElem?_eq_some_iff.1 hz).1
  subst hzk
  unfold atPage
  refine decide_eq_false fun e => ?_
  have := nth_inj (f := (·.Page)) hL.nd hkl hj e
  omega
theorem mesh_same {h : DHeap} (hlay : layoutOk h.Spans h.Larges = true) (hp : pages0 h = true) : meshS h = meshI h := by
  have hL := Lay.of hlay
  obtain ⟨f1, f2, f3⟩ := pages0_facts hp
  -- a span's page
  have hpg : ∀ i, i < h.Spans.length → ∃ p : Nat, (nth h.Spans i).Page = (p : Nat) ∧ p < pgN h ∧ (nth (tbl h).Entries p).Mode ≠ 0 := fun i hi => by
    have hc := spanOk_class (hL.sok _ (nth_mem hi))
    have hm : (nth h.Spans i).Page ∈ pgs h.Spans h.Larges := by
      unfold pgs; exact List.mem_append.2 (.inl (List.mem_map.2 ⟨_, nth_mem hi, rfl⟩))
    have hlt := f2 _ hm
    refine ⟨(nth h.Spans i).Page.toNat, by omega, by omega, ?_⟩
    refine (f3 _ (by omega)).2 ?_
    rw [show (((nth h.Spans i).Page.toNat : Nat) : Int) = (nth h.Spans i).Page by omega]
    exact hm
  rw [Bool.eq_iff_iff]
  unfold meshS meshI
  rw [allN_iff, allN_iff]
  constructor
  · intro hs i hi
    rw [allN_iff]
    intro j hj
    have hjl : j < h.Spans.length := by omega
    unfold pairAt
    rw [Bool.or_eq_true, decide_eq_true_eq]
    by_cases hfr : (pageEntry (tbl h) (nth h.Spans i).Page).Frame = (pageEntry (tbl h) (nth h.Spans j).Page).Frame
    · right
      obtain ⟨p, hp1, hp2, hp3⟩ := hpg i hi
      obtain ⟨q, hq1, hq2, hq3⟩ := hpg j hjl
      have h1 := List.all_eq_true.1 (hs i hi)
      rw [hp1, hq1, pe_at hp2, pe_at hq2] at hfr
      have h2 : (q : Int) ∈ framePages h (nth h.Spans i).Page := by
        rw [hp1, framePages_at hp2 hp3]
        exact mem_pagesOn.2 ⟨hq2, hq3, hfr.symm⟩
      have h3 := h1 _ h2
      unfold meshAt at h3
      rw [← hq1, spanOn_at hL hjl] at h3
      rw [Bool.or_eq_true, Bool.and_eq_true, decide_eq_true_eq] at h3
      rcases h3 with h3 | h3
      · omega
      · simpa using h3.2
    · exact .inl hfr
  · intro hi0 i hi
    rw [List.all_eq_true]
    intro q hq
    obtain ⟨p, hp1, hp2, hp3⟩ := hpg i hi
    have hq0 := hq
    rw [hp1, framePages_at hp2 hp3] at hq
    obtain ⟨q', rfl⟩ := pagesOn_nat hq
    obtain ⟨hq2, hq3, hq4⟩ := mem_pagesOn.1 hq
    have hqm := (f3 q' hq2).1 hq3
    unfold pgs at hqm
    rw [List.mem_append, List.mem_map, List.mem_flatMap] at hqm
    rcases hqm with ⟨s, hs, hsp⟩ | ⟨l, hl, hlp⟩
    · obtain ⟨j, hj, rfl⟩ := mem_nth hs
      unfold meshAt
      rw [← hsp, spanOn_at hL hj]
      rw [Bool.or_eq_true, Bool.and_eq_true, decide_eq_true_eq, decide_eq_true_eq]
      have hfr : (pageEntry (tbl h) (nth h.Spans i).Page).Frame = (pageEntry (tbl h) (nth h.Spans j).Page).Frame := by
        rw [hp1, hsp, pe_at hp2, pe_at hq2, hq4]
      rcases Nat.lt_trichotomy j i with hlt | heq | hlt
      · have h1 := allN_at (hi0 i hi) hlt
        unfold pairAt at h1
        rw [Bool.or_eq_true, decide_eq_true_eq] at h1
        exact .inr ⟨by omega, by simpa using h1.resolve_left fun e => e hfr⟩
      · exact .inl (by omega)
      · have h1 := allN_at (hi0 j hj) hlt
        unfold pairAt at h1
        rw [Bool.or_eq_true, decide_eq_true_eq] at h1
        exact .inr ⟨by omega, by rw [mesh_comm]; simpa using h1.resolve_left fun e => e hfr.symm⟩
    · exfalso
      obtain ⟨i2, hi2, rfl⟩ := mem_nth hl
      obtain ⟨k, hk, hkp⟩ := mem_lpgs.1 hlp
      have h1 := f1 i2 hi2 k hk
      rw [← hkp, framePages_at hq2 hq3] at h1
      have m1 : (q' : Int) ∈ pagesOn (tbl h) (nth (tbl h).Entries q').Frame := mem_pagesOn.2 ⟨hq2, hq3, rfl⟩
      have m2 : (p : Int) ∈ pagesOn (tbl h) (nth (tbl h).Entries q').Frame := mem_pagesOn.2 ⟨hp2, hp3, hq4.symm⟩
      obtain ⟨z, hz⟩ := List.length_eq_one_iff.1 h1
      rw [hz] at m1 m2
      simp only [List.mem_singleton] at m1 m2
      have := hL.dis _ (nth_mem hi) _ (nth_mem hi2) k hk
      omega
theorem heap_same (h : DHeap) : heapI h = heapS h := by
  unfold heapI heapS layAll
  cases e1 : kernelOk h.Kernel with
  | false => rfl
  | true =>
    cases e2 : rangesOk (pgN h) h.Free with
    | false => rfl
    | true =>
      cases e3 : layoutOk h.Spans h.Larges with
      | false => rfl
      | true =>
        cases e4 : pages0 h with
        | false => rfl
        | true =>
          rw [mesh_same e3 e4]
          cases e5 : objsAll h with
          | false => simp
          | true =>
            have := once_same e3 e5
            rw [← this]
            cases meshI h <;> cases mailCaches h <;> cases sinceOk h <;> cases h.Caches.all cacheOk <;> cases numsOk h <;> cases onceS h <;> cases jobAt h <;> rfl
end Go.Proofs.YtjgjnlppphejpaaGreat.Ab
