/- The reference and the program mean the same by a valid heap. No condition. -/
import Derived.Test.YtjgjnlppphejpaaGreatMj
import Derived.Test.YtjgjnlppphejpaaGreatMd

namespace Go.Proofs.YtjgjnlppphejpaaGreat.Ab
/- lists -/
theorem nth_inj {α : Type} [Inhabited α] {xs : List α} {f : α → Int} (hn : (xs.map f).Nodup) {i j : Nat} (hi : i < xs.length) (hj : j < xs.length) (h : f (nth xs i) = f (nth xs j)) : i = j := by
 have h1 := List.pairwise_iff_getElem.1 hn
 rcases Nat.lt_trichotomy i j with hlt | rfl | hlt
 ·have := h1 i j (by simpa using hi) (by simpa using hj) hlt
  simp only [List.getElem_map] at this
  rw [nth_of (List.getElem?_eq_getElem hi), nth_of (List.getElem?_eq_getElem hj)] at h
  exact absurd h this
 ·rfl
 ·have := h1 j i (by simpa using hj) (by simpa using hi) hlt
  simp only [List.getElem_map] at this
  rw [nth_of (List.getElem?_eq_getElem hi), nth_of (List.getElem?_eq_getElem hj)] at h
  exact absurd h.symm this
theorem mem_nth {α : Type} [Inhabited α] {xs : List α} {x : α} (h : x ∈ xs) : ∃ i, i < xs.length ∧ nth xs i = x := by
 obtain ⟨i, hi⟩ := List.mem_iff_getElem?.1 h
 exact ⟨i, (List.getElem?_eq_some_iff.1 hi).1, nth_of hi⟩
theorem sub_of_len : ∀ {H L : List Int}, H.Nodup → (∀ x ∈ H, x ∈ L) → L.length ≤ H.length → ∀ x ∈ L, x ∈ H
 | [], L, _, _, hl, x, hx => by
  have : L = [] := List.eq_nil_of_length_eq_zero (by simpa using hl)
  subst this; exact hx
 | y :: H, L, hn, hs, hl, x, hx => by
  have hy : y ∈ L := hs y (List.mem_cons_self ..)
  have hn2 := List.nodup_cons.1 hn
  by_cases hxy : x = y
  ·subst hxy; exact List.mem_cons_self ..
  ·refine List.mem_cons_of_mem _ (sub_of_len (L := L.erase y) hn2.2 (fun z hz => ?_) ?_ x ((List.mem_erase_of_ne hxy).2 hx))
   ·exact (List.mem_erase_of_ne (fun e : z = y => hn2.1 (by rw [← e]; exact hz))).2 (hs z (List.mem_cons_of_mem _ hz))
   ·rw [List.length_erase_of_mem hy]
    simp only [List.length_cons] at hl
    omega
theorem count_one {H L : List Int} (hL : L.Nodup) (hs : ∀ x ∈ H, x ∈ L) : (H.Nodup ∧ H.length = L.length) ↔ ∀ a ∈ L, H.count a = 1 := by
 constructor
 ·rintro ⟨hn, hl⟩ a ha
  have hm := sub_of_len hn hs (by omega) a ha
  have h1 := List.nodup_iff_count.1 hn a
  have h2 := List.count_pos_iff.2 hm
  omega
 ·intro hc
  have hn : H.Nodup := List.nodup_iff_count.2 fun a => by
   by_cases ha : a ∈ H
   ·rw [hc a (hs a ha)]; exact Nat.le_refl 1
   ·rw [List.count_eq_zero_of_not_mem ha]; exact Nat.zero_le _
  refine ⟨hn, ?_⟩
  have : H.Perm L := List.perm_iff_count.2 fun a => by
   by_cases ha : a ∈ L
   ·rw [hc a ha]
    have h1 := List.nodup_iff_count.1 hL a
    have h2 := List.count_pos_iff.2 ha
    omega
   ·rw [List.count_eq_zero_of_not_mem ha, List.count_eq_zero_of_not_mem fun h => ha (hs a h)]
  exact this.length_eq
/- layouts -/
theorem mem_lpgs {l : DLarge} {n : Nat} {p : Int} : p ∈ lpgs l n ↔ ∃ k : Nat, k < n ∧ p = l.Page + (k : Nat) := by
 unfold lpgs; simp only [List.mem_map, List.mem_range]
 constructor
 ·rintro ⟨k, hk, rfl⟩; exact ⟨k, hk, rfl⟩
 ·rintro ⟨k, hk, rfl⟩; exact ⟨k, hk, rfl⟩
structure Lay (sp : List DSpan) (la : List DLarge) : Prop where
 sok : ∀ s ∈ sp, spanOk s = true
 lok : ∀ l ∈ la, largeOk l = true
 nd : (sp.map (·.Page)).Nodup
 dis : ∀ s ∈ sp, ∀ l ∈ la, ∀ k : Nat, k < l.Pages.toNat → s.Page ≠ l.Page + (k : Nat)
 one : ∀ i j, i < la.length → j < la.length → ∀ k k' : Nat, k < (nth la i).Pages.toNat → k' < (nth la j).Pages.toNat → (nth la i).Page + (k : Nat) = (nth la j).Page + (k' : Nat) → i = j
theorem Lay.of {sp : List DSpan} {la : List DLarge} (h : layoutOk sp la = true) : Lay sp la := by
 obtain ⟨h1, h2, h3⟩ := layoutOk_facts h
 unfold pgs at h3
 rw [List.nodup_append] at h3
 obtain ⟨h4, h5, h6⟩ := h3
 have h7 := List.pairwise_flatMap.1 h5
 refine ⟨fun s hs => List.all_eq_true.1 h1 s hs, fun l hl => List.all_eq_true.1 h2 l hl, h4, fun s hs l hl k hk e => ?_, fun i j hi hj k k' hk hk' e => ?_⟩
 ·exact h6 _ (List.mem_map.2 ⟨s, hs, rfl⟩) _ (List.mem_flatMap.2 ⟨l, hl, mem_lpgs.2 ⟨k, hk, rfl⟩⟩) e
 ·have h8 := List.pairwise_iff_getElem.1 h7.2
  have ei := nth_of (List.getElem?_eq_getElem hi)
  have ej := nth_of (List.getElem?_eq_getElem hj)
  rw [ei] at hk e
  rw [ej] at hk' e
  rcases Nat.lt_trichotomy i j with hlt | heq | hlt
  ·exact absurd e (h8 i j hi hj hlt _ (mem_lpgs.2 ⟨k, hk, rfl⟩) _ (mem_lpgs.2 ⟨k', hk', rfl⟩))
  ·exact heq
  ·exact absurd e.symm (h8 j i hj hi hlt _ (mem_lpgs.2 ⟨k', hk', rfl⟩) _ (mem_lpgs.2 ⟨k, hk, rfl⟩))
/- addresses in use -/
theorem slotIn_iff {s : DSpan} {a : Int} (hs : spanOk s = true) : slotIn s a = true ↔ 16 * s.Page ≤ a ∧ a ≤ 16 * s.Page + 15 := by
 unfold slotIn; rw [hs]; simp
theorem denotes_span' {sp : List DSpan} {la : List DLarge} (hL : Lay sp la) {a : Int} {i : Nat} (hi : i < sp.length) (h : 16 * (nth sp i).Page ≤ a ∧ a ≤ 16 * (nth sp i).Page + 15) : denotes sp la a = ownS i (nth sp i) a := by
 refine denotes_span hi ((slotIn_iff (hL.sok _ (nth_mem hi))).2 h) fun j z hj hz => ?_
 cases e : slotIn z a with
 | false => rfl
 | true =>
  exfalso
  have hjl := (List.getElem?_eq_some_iff.1 hz).1
  have h2 := (slotIn_iff (hL.sok z (List.mem_of_getElem? hz))).1 e
  have hzj := nth_of hz
  subst hzj
  have := nth_inj (f := (·.Page)) hL.nd hi hjl (by omega)
  omega
theorem noSpan {sp : List DSpan} {la : List DLarge} (hL : Lay sp la) {a : Int} (h : ∀ i, i < sp.length → ¬ (16 * (nth sp i).Page ≤ a ∧ a ≤ 16 * (nth sp i).Page + 15)) : ∀ (j : Nat) (z : DSpan), j < sp.length → sp[j]? = some z → slotIn z a = false := by
 intro j z hj hz
 cases e : slotIn z a with
 | false => rfl
 | true =>
  have h2 := (slotIn_iff (hL.sok z (List.mem_of_getElem? hz))).1 e
  have hzj := nth_of hz
  subst hzj
  exact absurd h2 (h j hj)
theorem live_iff {sp : List DSpan} {la : List DLarge} (hL : Lay sp la) (a : Int) : a ∈ live0 sp la ↔ a ∈ liveS sp la := by
 have hS : a ∈ liveS sp la ↔ ∃ n : Nat, n < 512 ∧ liveAt sp la n = true ∧ (n : Int) = a := by
  unfold liveS liveN
  simp only [List.mem_map, List.mem_filter, List.mem_range]
  constructor
  ·rintro ⟨n, ⟨h1, h2⟩, h3⟩; exact ⟨n, h1, h2, h3⟩
  ·rintro ⟨n, h1, h2, h3⟩; exact ⟨n, ⟨h1, h2⟩, h3⟩
 rw [hS]
 unfold live0 spansLive
 rw [List.mem_append, List.mem_flatMap, List.mem_map]
 constructor
 ·rintro (⟨s, hs, ha⟩ | ⟨l, hl, rfl⟩)
  ·obtain ⟨i, hi, rfl⟩ := mem_nth hs
   unfold spanLive at ha
   obtain ⟨k, hk, rfl⟩ := List.mem_map.1 ha
   obtain ⟨hk1, hk2⟩ := List.mem_filter.1 hk
   have hk1 := List.mem_range.1 hk1
   have hc := spanOk_class (hL.sok _ hs)
   have hsc := slots_csz ⟨hc.2.2.1, hc.2.2.2⟩
   have hsb := slots_bd (nth sp i).Class
   unfold slotAddr
   have hbd : 0 ≤ (k : Int) * csz (nth sp i).Class ∧ (k : Int) * csz (nth sp i).Class ≤ 15 := by
    rcases csz_cases ⟨hc.2.2.1, hc.2.2.2⟩ with e | e | e | e <;> rw [e] at hsc ⊢ <;> omega
   have hd := denotes_span' hL hi (a := 16 * (nth sp i).Page + (k : Nat) * csz (nth sp i).Class) (by omega)
   have hq : (16 * (nth sp i).Page + (k : Nat) * csz (nth sp i).Class - 16 * (nth sp i).Page) / csz (nth sp i).Class = (k : Nat) ∧ (16 * (nth sp i).Page + (k : Nat) * csz (nth sp i).Class - 16 * (nth sp i).Page) % csz (nth sp i).Class = 0 := by
    rcases csz_cases ⟨hc.2.2.1, hc.2.2.2⟩ with e | e | e | e <;> rw [e] <;> omega
   refine ⟨(16 * (nth sp i).Page + (k : Nat) * csz (nth sp i).Class).toNat, by omega, ?_, by omega⟩
   have hcast : (((16 * (nth sp i).Page + (k : Nat) * csz (nth sp i).Class).toNat : Nat) : Int) = 16 * (nth sp i).Page + (k : Nat) * csz (nth sp i).Class := by omega
   unfold liveAt
   rw [hcast, hd]
   simp only [ownS, hq.1, hq.2, hk2]
   rfl
  ·obtain ⟨i, hi, rfl⟩ := mem_nth hl
   have hf := largeOk_pages (hL.lok _ hl)
   have hf2 := largeOk_facts (hL.lok _ hl)
   have h1 := noSpan hL (a := 16 * (nth la i).Page) fun j hj he => hL.dis _ (nth_mem hj) _ hl 0 (by omega) (by omega)
   have hh : largeHas (nth la i) (16 * (nth la i).Page) = true := by
    unfold largeHas; rw [hL.lok _ hl, decide_eq_true (by omega)]; rfl
   have hd := denotes_large (a := 16 * (nth la i).Page) (Nat.le_refl _) h1 hi hh fun j z hj hz => by
    cases e : largeHas z (16 * (nth la i).Page) with
    | false => rfl
    | true =>
     exfalso
     have hjl := (List.getElem?_eq_some_iff.1 hz).1
     have hzm := List.mem_of_getElem? hz
     have hzj := nth_of hz
     subst hzj
     have hf3 := largeOk_pages (hL.lok _ hzm)
     have hlo := hL.lok _ hzm
     unfold largeOk at hlo
     rw [decide_eq_true_eq] at hlo
     unfold largeHas at e
     rw [Bool.and_eq_true, decide_eq_true_eq] at e
     have := hL.one i j hi hjl 0 ((nth la i).Page - (nth la j).Page).toNat (by omega) (by omega) (by omega)
     omega
   refine ⟨(16 * (nth la i).Page).toNat, by omega, ?_, by omega⟩
   have hcast : (((16 * (nth la i).Page).toNat : Nat) : Int) = 16 * (nth la i).Page := by omega
   unfold liveAt
   rw [hcast, hd]
   simp
 ·rintro ⟨n, hn, hl, rfl⟩
  cases h1 : sp.findIdx? (slotIn · (n : Nat)) with
  | some i =>
   obtain ⟨hi, hp, -⟩ := List.findIdx?_eq_some_iff_getElem.1 h1
   have hi' := nth_of (List.getElem?_eq_getElem hi)
   rw [← hi'] at hp
   have hs := hL.sok _ (nth_mem hi)
   have h2 := (slotIn_iff hs).1 hp
   have hc := spanOk_class hs
   have hsc := slots_csz ⟨hc.2.2.1, hc.2.2.2⟩
   have hd : denotes sp la (n : Nat) = ownS i (nth sp i) (n : Nat) := by unfold denotes; rw [h1]
   rw [liveAt_w hd] at hl
   simp only [Bool.and_eq_true, Bool.or_eq_true, decide_eq_true_eq] at hl
   simp only [ownS] at hl
   cases hh : hasSlot (nth sp i).Bits (((n : Int) - 16 * (nth sp i).Page) / csz (nth sp i).Class) with
   | false => rw [hh] at hl; simp at hl
   | true =>
    have hz : ((n : Int) - 16 * (nth sp i).Page) % csz (nth sp i).Class = 0 := hl.1
    refine .inl ⟨nth sp i, nth_mem hi, ?_⟩
    unfold spanLive
    refine List.mem_map.2 ⟨(((n : Int) - 16 * (nth sp i).Page) / csz (nth sp i).Class).toNat, List.mem_filter.2 ⟨List.mem_range.2 ?_, ?_⟩, ?_⟩
    ·rcases csz_cases ⟨hc.2.2.1, hc.2.2.2⟩ with e | e | e | e <;> rw [e] at hsc hz ⊢ <;> omega
    ·have : ((((n : Int) - 16 * (nth sp i).Page) / csz (nth sp i).Class).toNat : Int) = ((n : Int) - 16 * (nth sp i).Page) / csz (nth sp i).Class := by
      rcases csz_cases ⟨hc.2.2.1, hc.2.2.2⟩ with e | e | e | e <;> rw [e] <;> omega
     rw [this]; exact hh
    ·unfold slotAddr
     rcases csz_cases ⟨hc.2.2.1, hc.2.2.2⟩ with e | e | e | e <;> rw [e] at hz ⊢ <;> omega
  | none =>
   cases h2 : la.findIdx? (largeHas · (n : Nat)) with
   | some i =>
    obtain ⟨hi, hp, -⟩ := List.findIdx?_eq_some_iff_getElem.1 h2
    have hd : denotes sp la (n : Nat) = ⟨3, i, 0, (n : Nat) - 16 * (nth la i).Page⟩ := by unfold denotes; rw [h1, h2]
    rw [liveAt_w hd] at hl
    simp only [Bool.and_eq_true, decide_eq_true_eq] at hl
    exact .inr ⟨nth la i, nth_mem hi, by have := hl.1; omega⟩
   | none =>
    have hd : denotes sp la (n : Nat) = ⟨0, 0, 0, 0⟩ := by unfold denotes; rw [h1, h2]
    rw [liveAt_w hd] at hl; simp at hl
end Go.Proofs.YtjgjnlppphejpaaGreat.Ab
/- The reference and the program mean the same by a valid heap: holders, spans on one frame, the whole. No condition. -/
namespace Go.Proofs.YtjgjnlppphejpaaGreat.Ab
theorem live_of {sp : List DSpan} {la : List DLarge} (hL : Lay sp la) {a : Int} (h0 : (denotes sp la a).Offset = 0) (hk : (denotes sp la a).Kind = 1 ∨ (denotes sp la a).Kind = 3) : a ∈ liveS sp la := by
 have hb : 0 ≤ a ∧ a < 512 := by
  unfold denotes at h0 hk
  cases h1 : sp.findIdx? (slotIn · a) with
  | some i =>
   obtain ⟨hi, hp, -⟩ := List.findIdx?_eq_some_iff_getElem.1 h1
   have hm := List.getElem_mem hi
   have h2 := (slotIn_iff (hL.sok _ hm)).1 hp
   have hc := spanOk_class (hL.sok _ hm)
   omega
  | none =>
   rw [h1] at h0 hk
   cases h2 : la.findIdx? (largeHas · a) with
   | some i =>
    obtain ⟨hi, -⟩ := List.findIdx?_eq_some_iff_getElem.1 h2
    rw [h2] at h0
    have hf := largeOk_pages (hL.lok _ (nth_mem hi))
    simp only at h0
    omega
   | none => rw [h2] at hk; simp at hk
 have hc : ((a.toNat : Nat) : Int) = a := by omega
 unfold liveS liveN
 refine List.mem_map.2 ⟨a.toNat, List.mem_filter.2 ⟨List.mem_range.2 (by omega), ?_⟩, hc⟩
 unfold liveAt
 rw [hc]
 simp only [Bool.and_eq_true, Bool.or_eq_true, decide_eq_true_eq]
 exact ⟨h0, hk⟩
theorem liveS_nodup (sp : List DSpan) (la : List DLarge) : (liveS sp la).Nodup := by
 unfold liveS liveN List.Nodup
 rw [List.pairwise_map]
 exact (List.nodup_range.sublist List.filter_sublist).imp fun h e => h (by omega)
theorem held_live {h : DHeap} (hL : Lay h.Spans h.Larges) {a c : Int} (hh : slotHeld h a c = true) : a ∈ liveS h.Spans h.Larges := by
 unfold slotHeld at hh
 simp only [Bool.and_eq_true, decide_eq_true_eq] at hh
 exact live_of hL hh.1.2 (.inl hh.1.1)
theorem obj_live {h : DHeap} (hL : Lay h.Spans h.Larges) {o : DObj} (hh : ownsObj h o = true) : o.Addr ∈ liveS h.Spans h.Larges := by
 unfold ownsObj at hh
 simp only [Bool.and_eq_true, Bool.or_eq_true, decide_eq_true_eq] at hh
 exact live_of hL hh.1 (hh.2.elim (fun e => .inl e.1) (fun e => .inr e.1))
theorem count_same (h : DHeap) (a : Int) : (holdersI h).count a = (holders h).count a := by
 unfold holdersI holders
 simp only [List.count_append]
 omega
theorem heldAll_iff (h : DHeap) : heldAll h = true ↔ (h.Caches.all (cacheHeld h) = true ∧ h.Quar.Lst.all (quarHeld h) = true) ∧ (inFlight h.Mail).all (flyHeld h) = true := by
 unfold heldAll; simp only [Bool.and_eq_true]
theorem holders_live {h : DHeap} (hL : Lay h.Spans h.Larges) (ho : objsAll h = true) (hh : heldAll h = true) : ∀ a ∈ holders h, a ∈ liveS h.Spans h.Larges := by
 obtain ⟨⟨h1, h2⟩, h3⟩ := (heldAll_iff h).1 hh
 intro a ha
 unfold holders at ha
 simp only [List.mem_append] at ha
 rcases ha with ((ha | ha) | ha) | ha
 ·obtain ⟨o, hom, rfl⟩ := List.mem_map.1 ha
  obtain ⟨i, hi, rfl⟩ := mem_nth hom
  have h4 := allN_at ho hi
  unfold objAt at h4
  rw [Bool.and_eq_true] at h4
  exact obj_live hL h4.2
 ·unfold cacheAddrs at ha
  obtain ⟨c, hc, ha⟩ := List.mem_flatMap.1 ha
  obtain ⟨l, hl, ha⟩ := List.mem_flatten.1 ha
  obtain ⟨k, hk, rfl⟩ := mem_nth hl
  have h4 := List.all_eq_true.1 h1 c hc
  unfold cacheHeld at h4
  have h5 := List.all_eq_true.1 (show (nth c.Lists k).all _ = true from allN_at h4 hk) a ha
  exact held_live hL h5
 ·obtain ⟨x, hx, rfl⟩ := List.mem_map.1 ha
  exact held_live hL (List.all_eq_true.1 h2 x hx)
 ·exact held_live hL (List.all_eq_true.1 h3 a ha)
theorem once_same {h : DHeap} (hlay : layoutOk h.Spans h.Larges = true) (ho : objsAll h = true) : (sinceOk h && onceS h) = onceI h := by
 have hL := Lay.of hlay
 have hq : (sinceOk h = true ∧ h.Quar.Lst.all (quarHeld h) = true) ↔ h.Quar.Lst.all (quarI h) = true := by
  unfold sinceOk quarI
  simp only [List.all_eq_true, Bool.and_eq_true]
  exact ⟨fun e x hx => ⟨e.2 x hx, e.1 x hx⟩, fun e => ⟨fun x hx => (e x hx).2, fun x hx => (e x hx).1⟩⟩
 have hI : onceI h = true ↔ ((h.Caches.all (cacheHeld h) = true ∧ h.Quar.Lst.all (quarI h) = true) ∧ (inFlight h.Mail).all (flyHeld h) = true) ∧ ∀ a ∈ liveS h.Spans h.Larges, (holders h).count a = 1 := by
  unfold onceI
  simp only [Bool.and_eq_true]
  refine and_congr Iff.rfl ?_
  simp only [List.all_eq_true, decide_eq_true_eq, count_same]
  unfold liveI sorted
  simp only [List.mem_mergeSort, live_iff hL]
 have hSS : onceS h = true ↔ heldAll h = true ∧ ((holders h).Nodup ∧ (holders h).length = (liveS h.Spans h.Larges).length) := by
  unfold onceS
  simp only [Bool.and_eq_true, decide_eq_true_eq, and_assoc]
 rw [Bool.eq_iff_iff, Bool.and_eq_true, hI, hSS]
 constructor
 ·rintro ⟨h1, h2, h3⟩
  obtain ⟨⟨h4, h5⟩, h6⟩ := (heldAll_iff h).1 h2
  exact ⟨⟨⟨h4, hq.1 ⟨h1, h5⟩⟩, h6⟩, (count_one (liveS_nodup ..) (holders_live hL ho h2)).1 h3⟩
 ·rintro ⟨⟨⟨h1, h2⟩, h3⟩, h4⟩
  obtain ⟨h5, h6⟩ := hq.2 h2
  have h7 : heldAll h = true := (heldAll_iff h).2 ⟨⟨h1, h6⟩, h3⟩
  exact ⟨h5, h7, (count_one (liveS_nodup ..) (holders_live hL ho h7)).2 h4⟩
/- spans on one frame -/
theorem mesh_comm (s t : DSpan) : meshable s t = meshable t s := by
 unfold meshable
 rw [Bool.and_comm (spanOk s)]
 congr 1
 refine decide_eq_decide.2 ?_
 rw [Nat.and_comm]
 exact ⟨fun h => ⟨h.1.symm, fun e => h.2.1 e.symm, h.2.2⟩, fun h => ⟨h.1.symm, fun e => h.2.1 e.symm, h.2.2⟩⟩
theorem mem_pagesOn {t : DTable} {f : Int} {p : Nat} : (p : Int) ∈ pagesOn t f ↔ p < t.Entries.length ∧ (nth t.Entries p).Mode ≠ 0 ∧ (nth t.Entries p).Frame = f := by
 unfold pagesOn pgsOn
 simp only [List.mem_map, List.mem_filter, List.mem_range]
 constructor
 ·rintro ⟨n, ⟨h1, h2⟩, h3⟩
  obtain rfl : n = p := by omega
  unfold onF at h2
  rw [decide_eq_true_eq] at h2
  exact ⟨h1, h2⟩
 ·rintro ⟨h1, h2⟩
  exact ⟨p, ⟨h1, by unfold onF; rw [decide_eq_true_eq]; exact h2⟩, rfl⟩
theorem pagesOn_nat {t : DTable} {f q : Int} (h : q ∈ pagesOn t f) : ∃ p : Nat, q = (p : Nat) := by
 unfold pagesOn pgsOn at h
 obtain ⟨n, -, rfl⟩ := List.mem_map.1 h
 exact ⟨n, rfl⟩
theorem pages0_facts {h : DHeap} (hp : pages0 h = true) : (∀ i, i < h.Larges.length → ∀ k : Nat, k < (nth h.Larges i).Pages.toNat → (framePages h ((nth h.Larges i).Page + (k : Nat))).length = 1) ∧ (∀ p ∈ pgs h.Spans h.Larges, p < pgN h) ∧ ∀ p : Nat, p < pgN h → ((nth (tbl h).Entries p).Mode ≠ 0 ↔ (p : Int) ∈ pgs h.Spans h.Larges) := by
 unfold pages0 at hp
 simp only [Bool.and_eq_true] at hp
 obtain ⟨⟨⟨-, h1⟩, h2⟩, h3⟩ := hp
 refine ⟨fun i hi k hk => ?_, fun p hp => ?_, fun p hp => ?_⟩
 ·have h4 := allN_at h1 hi
  unfold lgAt at h4
  rw [Bool.and_eq_true] at h4
  have h5 := allN_at h4.2 hk
  unfold onePg at h5
  rw [decide_eq_true_eq] at h5
  exact h5
 ·have := List.all_eq_true.1 h2 p hp
  rw [decide_eq_true_eq] at this
  exact this
 ·have h4 := allN_at h3 hp
  unfold pgAt at h4
  rw [Bool.and_eq_true, decide_eq_true_eq] at h4
  exact h4.1
theorem pe_at {h : DHeap} {p : Nat} (hp : p < pgN h) : pageEntry (tbl h) (p : Nat) = nth (tbl h).Entries p := pageEntry_nat hp
theorem framePages_at {h : DHeap} {p : Nat} (hp : p < pgN h) (hm : (nth (tbl h).Entries p).Mode ≠ 0) : framePages h (p : Nat) = pagesOn (tbl h) (nth (tbl h).Entries p).Frame := by
 unfold framePages
 rw [show h.Kernel.Machine.Table = tbl h from rfl, pe_at hp, if_neg hm]
theorem spanOn_at {h : DHeap} (hL : Lay h.Spans h.Larges) {j : Nat} (hj : j < h.Spans.length) : spanOn h (nth h.Spans j).Page = (j : Nat) := by
 unfold spanOn
 refine fstIx_yes (get_nth hj) (by unfold atPage; simp) fun k z hk hz => ?_
 have hzk := nth_of hz
 have hkl := (List.getElem?_eq_some_iff.1 hz).1
 subst hzk
 unfold atPage
 refine decide_eq_false fun e => ?_
 have := nth_inj (f := (·.Page)) hL.nd hkl hj e
 omega
theorem mesh_same {h : DHeap} (hlay : layoutOk h.Spans h.Larges = true) (hp : pages0 h = true) : meshS h = meshI h := by
 have hL := Lay.of hlay
 obtain ⟨f1, f2, f3⟩ := pages0_facts hp
 -- a span's page
 have hpg : ∀ i, i < h.Spans.length → ∃ p : Nat, (nth h.Spans i).Page = (p : Nat) ∧ p < pgN h ∧ (nth (tbl h).Entries p).Mode ≠ 0 := fun i hi => by
  have hc := spanOk_class (hL.sok _ (nth_mem hi))
  have hm : (nth h.Spans i).Page ∈ pgs h.Spans h.Larges := by
   unfold pgs; exact List.mem_append.2 (.inl (List.mem_map.2 ⟨_, nth_mem hi, rfl⟩))
  have hlt := f2 _ hm
  refine ⟨(nth h.Spans i).Page.toNat, by omega, by omega, ?_⟩
  refine (f3 _ (by omega)).2 ?_
  rw [show (((nth h.Spans i).Page.toNat : Nat) : Int) = (nth h.Spans i).Page by omega]
  exact hm
 rw [Bool.eq_iff_iff]
 unfold meshS meshI
 rw [allN_iff, allN_iff]
 constructor
 ·intro hs i hi
  rw [allN_iff]
  intro j hj
  have hjl : j < h.Spans.length := by omega
  unfold pairAt
  rw [Bool.or_eq_true, decide_eq_true_eq]
  by_cases hfr : (pageEntry (tbl h) (nth h.Spans i).Page).Frame = (pageEntry (tbl h) (nth h.Spans j).Page).Frame
  ·right
   obtain ⟨p, hp1, hp2, hp3⟩ := hpg i hi
   obtain ⟨q, hq1, hq2, hq3⟩ := hpg j hjl
   have h1 := List.all_eq_true.1 (hs i hi)
   rw [hp1, hq1, pe_at hp2, pe_at hq2] at hfr
   have h2 : (q : Int) ∈ framePages h (nth h.Spans i).Page := by
    rw [hp1, framePages_at hp2 hp3]
    exact mem_pagesOn.2 ⟨hq2, hq3, hfr.symm⟩
   have h3 := h1 _ h2
   unfold meshAt at h3
   rw [← hq1, spanOn_at hL hjl] at h3
   rw [Bool.or_eq_true, Bool.and_eq_true, decide_eq_true_eq] at h3
   rcases h3 with h3 | h3
   ·omega
   ·simpa using h3.2
  ·exact .inl hfr
 ·intro hi0 i hi
  rw [List.all_eq_true]
  intro q hq
  obtain ⟨p, hp1, hp2, hp3⟩ := hpg i hi
  have hq0 := hq
  rw [hp1, framePages_at hp2 hp3] at hq
  obtain ⟨q', rfl⟩ := pagesOn_nat hq
  obtain ⟨hq2, hq3, hq4⟩ := mem_pagesOn.1 hq
  have hqm := (f3 q' hq2).1 hq3
  unfold pgs at hqm
  rw [List.mem_append, List.mem_map, List.mem_flatMap] at hqm
  rcases hqm with ⟨s, hs, hsp⟩ | ⟨l, hl, hlp⟩
  ·obtain ⟨j, hj, rfl⟩ := mem_nth hs
   unfold meshAt
   rw [← hsp, spanOn_at hL hj]
   rw [Bool.or_eq_true, Bool.and_eq_true, decide_eq_true_eq, decide_eq_true_eq]
   have hfr : (pageEntry (tbl h) (nth h.Spans i).Page).Frame = (pageEntry (tbl h) (nth h.Spans j).Page).Frame := by
    rw [hp1, hsp, pe_at hp2, pe_at hq2, hq4]
   rcases Nat.lt_trichotomy j i with hlt | heq | hlt
   ·have h1 := allN_at (hi0 i hi) hlt
    unfold pairAt at h1
    rw [Bool.or_eq_true, decide_eq_true_eq] at h1
    exact .inr ⟨by omega, by simpa using h1.resolve_left fun e => e hfr⟩
   ·exact .inl (by omega)
   ·have h1 := allN_at (hi0 j hj) hlt
    unfold pairAt at h1
    rw [Bool.or_eq_true, decide_eq_true_eq] at h1
    exact .inr ⟨by omega, by rw [mesh_comm]; simpa using h1.resolve_left fun e => e hfr.symm⟩
  ·exfalso
   obtain ⟨i2, hi2, rfl⟩ := mem_nth hl
   obtain ⟨k, hk, hkp⟩ := mem_lpgs.1 hlp
   have h1 := f1 i2 hi2 k hk
   rw [← hkp, framePages_at hq2 hq3] at h1
   have m1 : (q' : Int) ∈ pagesOn (tbl h) (nth (tbl h).Entries q').Frame := mem_pagesOn.2 ⟨hq2, hq3, rfl⟩
   have m2 : (p : Int) ∈ pagesOn (tbl h) (nth (tbl h).Entries q').Frame := mem_pagesOn.2 ⟨hp2, hp3, hq4.symm⟩
   obtain ⟨z, hz⟩ := List.length_eq_one_iff.1 h1
   rw [hz] at m1 m2
   simp only [List.mem_singleton] at m1 m2
   have := hL.dis _ (nth_mem hi) _ (nth_mem hi2) k hk
   omega
theorem heap_same (h : DHeap) : heapI h = heapS h := by
 unfold heapI heapS layAll
 cases e1 : kernelOk h.Kernel with
 | false => rfl
 | true =>
  cases e2 : rangesOk (pgN h) h.Free with
  | false => rfl
  | true =>
   cases e3 : layoutOk h.Spans h.Larges with
   | false => rfl
   | true =>
    cases e4 : pages0 h with
    | false => rfl
    | true =>
     rw [mesh_same e3 e4]
     cases e5 : objsAll h with
     | false => simp
     | true =>
      have := once_same e3 e5
      rw [← this]
      cases meshI h <;> cases mailCaches h <;> cases sinceOk h <;> cases h.Caches.all cacheOk <;> cases numsOk h <;> cases onceS h <;> cases jobAt h <;> rfl
end Go.Proofs.YtjgjnlppphejpaaGreat.Ab
/- Pages given back one by one, as plain functions over a kernel's data; a valid kernel stays valid. No condition. -/
namespace Go.Proofs.YtjgjnlppphejpaaGreat.Ab
theorem kernelOk_iff {k : DKernel} : kernelOk k = true ↔ (∀ j, j < k.Refuse.length → 0 ≤ nth k.Refuse j) ∧ framesOk k.Machine.Frames = true ∧ tableOk k.Machine.Table k.Machine.Frames.Used.length = true ∧ (∀ j, j < k.Machine.Frames.Used.length → nth k.Machine.Frames.Used j = decide (0 < (pagesOn k.Machine.Table (j : Int)).length)) ∧ 0 ≤ k.Calls ∧ k.Calls ≤ 100000 ∧ k.Refuse.length ≤ 40 := by
 unfold kernelOk machineOk
 simp only [Bool.and_eq_true, allN_iff, decide_eq_true_eq, machOk, beq_iff_eq, and_assoc]
theorem framesOk_iff {f : DFrames} : framesOk f = true ↔ 1 ≤ f.Cells.length ∧ f.Cells.length ≤ 32 ∧ f.Used.length = f.Cells.length ∧ ∀ j, j < f.Cells.length → rowOk (nth f.Cells j) (nth f.Used j) = true := by
 unfold framesOk
 simp only [Bool.and_eq_true, decide_eq_true_eq, List.all_eq_true, and_assoc]
 refine and_congr Iff.rfl (and_congr Iff.rfl (and_congr_right fun hu => ⟨fun h j hj => ?_, fun h q hq => ?_⟩))
 ·exact h _ (List.mem_of_getElem? (zip_get (get_nth hj) (get_nth (by omega))))
 ·obtain ⟨j, hj⟩ := List.mem_iff_getElem?.1 hq
  obtain ⟨h1, h2⟩ := List.getElem?_zip_eq_some.1 hj
  have := h j (List.getElem?_eq_some_iff.1 h1).1
  rwa [nth_of h1, nth_of h2] at this
theorem tableOk_iff {t : DTable} {fr : Int} : tableOk t fr = true ↔ (∀ j, j < t.Entries.length → entOk fr (nth t.Entries j) = true) ∧ 1 ≤ t.Entries.length ∧ t.Entries.length ≤ 32 := by
 unfold tableOk
 simp only [Bool.and_eq_true, allN_iff, decide_eq_true_eq]
theorem kernelOk_sml {k : DKernel} (h : kernelOk k = true) : DKernel.sml k := by
 obtain ⟨h1, h2, h3, h4, h5, h6, h7⟩ := kernelOk_iff.1 h
 obtain ⟨g1, g2, g3, g4⟩ := framesOk_iff.1 h2
 obtain ⟨t1, t2, t3⟩ := tableOk_iff.1 h3
 refine ⟨⟨⟨⟨by omega, fun r hr => ?_⟩, (by omega : _ ≤ 1048576)⟩, ⟨by omega, fun e _ => trivial⟩⟩, (by omega : _ ≤ 1048576)⟩
 obtain ⟨j, hj⟩ := List.mem_iff_getElem?.1 hr
 have := g4 j (List.getElem?_eq_some_iff.1 hj).1
 rw [nth_of hj] at this
 unfold rowOk at this
 simp only [Bool.and_eq_true, decide_eq_true_eq] at this
 show r.length ≤ 1048576
 omega
theorem heapS_kernel {h : DHeap} (hh : heapS h = true) : kernelOk h.Kernel = true := by
 unfold heapS layAll at hh
 simp only [Bool.and_eq_true] at hh
 grind
end Go.Proofs.YtjgjnlppphejpaaGreat.Ab
/- Copies of kernels, the reference's and the program's. No condition. -/
namespace Go.Proofs.YtjgjnlppphejpaaGreat.Ab
open Go.RowKit
set_option maxRecDepth 20000
set_option maxHeartbeats 4000000
/-- A copy of rows that hold no slice. -/
theorem Ap.cp {α : Type} {e : α → List C} {xs : List α} {sz by_ : Nat} {K : List (List C) → Prop} (h2 : ∀ x, (e x).length = sz) (h3 : ∀ x, noOwn (e x) = true) (hl : xs.length ≤ 1048576) (hb : by_ ≤ 1000) (hK : K (xs.map e)) : Ap true [] (xs.map e) sz by_ K :=
 Ap.mk (fun r hr => by cases hr) (fun r hr => by obtain ⟨y, -, rfl⟩ := List.mem_map.1 hr; exact h2 y) (fun _ r hr => by obtain ⟨y, -, rfl⟩ := List.mem_map.1 hr; exact h3 y) (by simp; omega) (by simp only [List.length_map, List.length_nil, Nat.zero_add]; exact mkB hl hb) rfl hK
theorem Fl.cp {α : Type} {e : α → List C} {xs : List α} {sz by_ : Nat} {X : Prop} (h2 : ∀ x, (e x).length = sz) (h3 : ∀ x, noOwn (e x) = true) (hl : xs.length ≤ 1048576) (hb : by_ ≤ 1000) (hK : X) : Fl (xs.map e) sz by_ X :=
 Fl.mk (fun r hr => by obtain ⟨y, -, rfl⟩ := List.mem_map.1 hr; exact ⟨h2 y, h3 y⟩) (by simp; omega) (by simp only [List.length_map]; exact mkB hl hb) hK
/-- One more row at the end. -/
theorem Ap.sn {rows rs : List (List C)} {r : List C} {sz by_ : Nat} {K : List (List C) → Prop} (h1 : ∀ r ∈ rows, r.length = sz) (h2 : r.length = sz) (hl : rows.length + 1 ≤ 1048576) (hb : by_ ≤ 1000) (hr : rs = rows ++ [r]) (hK : K rs) : Ap false rows [r] sz by_ K :=
 Ap.mk h1 (fun r' hr => by rw [List.mem_singleton.1 hr]; exact h2) (fun h => by cases h) (by simp; omega) (mkB (by simpa using hl) hb) hr hK
theorem copyInts_impl (xs : List Int) (hl : xs.length ≤ 1048576) : CallsA Tryz.prog 156 false [.val none (rIntS .imm xs)] .one (rIntS .own xs) := by
 refine fO (n := 6) [] Tryz.func156 (by kernel_rfl) rfl (by kernel_rfl) (by rfl) (.inr (rIntS_fr _)) ?_
 repeat' ((conv=>whnf);first|with_reducible (first|refine Lm ?_|refine Wm (by omega) ?_|refine Bn ?_|refine Fm rfl ?_)|refine Bt ?_|refine Bu ?_|refine Ap.cp (fun _ => rfl) (fun _ => rfl) hl (by decide) ?_)
 rfl
end Go.Proofs.YtjgjnlppphejpaaGreat.Ab
/- The cells of an object, the reference's and the program's. No condition. -/
namespace Go.Proofs.YtjgjnlppphejpaaGreat.Ab
open Go.RowKit
set_option maxRecDepth 20000
set_option maxHeartbeats 4000000
/-- What lies at an address. -/
def cellOf (k : DKernel) (a : Int) : Int := nth (nth k.Machine.Frames.Cells (pageEntry k.Machine.Table (a / 16)).Frame.toNat) (a % 16).toNat
/-- What lies at n addresses from a on. -/
def cellsOf (k : DKernel) (a : Int) (n : Nat) : List Int := (List.range n).map fun (i : Nat) => cellOf k (a + i)
theorem cellsOf_len (k : DKernel) (a : Int) (n : Nat) : (cellsOf k a n).length = n := by simp [cellsOf]
theorem cellsOf_succ (k : DKernel) (a : Int) (n : Nat) : cellsOf k a (n + 1) = cellsOf k a n ++ [cellOf k (a + n)] := by
 unfold cellsOf; rw [List.range_succ, List.map_append]; rfl
/-- The frame of a page, and the row in it. -/
theorem frame_in {k : DKernel} (hk : kernelOk k = true) (p : Int) : 0 ≤ (pageEntry k.Machine.Table p).Frame ∧ (pageEntry k.Machine.Table p).Frame < k.Machine.Frames.Cells.length := by
 obtain ⟨-, h2, h3, -⟩ := kernelOk_iff.1 hk
 obtain ⟨g1, g2, g3, g4⟩ := framesOk_iff.1 h2
 unfold pageEntry
 split
 ·rename_i hp
  have := (tableOk_iff.1 h3).1 p.toNat (by omega)
  unfold entOk at this
  rw [decide_eq_true_eq] at this
  by_cases hm : (nth k.Machine.Table.Entries p.toNat).Mode = 0
  ·have := this.2.2.1 hm; omega
  ·have := this.2.2.2 hm; omega
 ·simp only; omega
theorem row_ok {k : DKernel} (hk : kernelOk k = true) {j : Nat} (hj : j < k.Machine.Frames.Cells.length) : (nth k.Machine.Frames.Cells j).length = 16 ∧ ∀ i, i < 16 → 0 ≤ nth (nth k.Machine.Frames.Cells j) i ∧ nth (nth k.Machine.Frames.Cells j) i ≤ 999 := by
 obtain ⟨-, h2, -⟩ := kernelOk_iff.1 hk
 obtain ⟨g1, g2, g3, g4⟩ := framesOk_iff.1 h2
 have := g4 j hj
 unfold rowOk at this
 rw [Bool.and_eq_true, decide_eq_true_eq, List.all_eq_true] at this
 refine ⟨this.1, fun i hi => ?_⟩
 have h := this.2 _ (nth_mem (xs := nth k.Machine.Frames.Cells j) (i := i) (by omega))
 unfold celOk at h
 rw [Bool.and_eq_true, decide_eq_true_eq] at h
 exact h.1
theorem l31Cells_spec (h : DHeap) (o : DObj) (hk : kernelOk h.Kernel = true) (ha : 0 ≤ o.Addr ∧ o.Addr ≤ 1000000) (hn : o.Size ≤ 1000000) :
  CallsA Tryz.prog 91 false [.ptr (DHeap.enc .imm h), .val (some 4) (DObj.enc .imm o)] .one (rIntS .own (cellsOf h.Kernel o.Addr o.Size.toNat)) := by
 have hs := kernelOk_sml hk
 refine fO (n := 48) [] Tryz.func91 (by kernel_rfl) rfl (by kernel_rfl) (by rfl) (.inr (rIntS_fr _)) ?_
 repeat' ((conv=>whnf);first|with_reducible (first|refine Lm ?_|refine Wm (by omega) ?_|refine Bn ?_|refine Fm rfl ?_)|refine Bt ?_|refine Bu ?_)
 (conv=>whnf)
 refine Lp.mk (ι := Nat) (fun i => [(0, .iref (DHeap.enc .imm h) 0), (3, .hold .box (DObj.enc .imm o)), (5, .hold .one (rIntS .own (cellsOf h.Kernel o.Addr i))), (6, .hold .one [I ((i : Nat) : Int)])]) (fun i => i ≤ o.Size.toNat) (fun i => o.Size.toNat - i) (0) ?_ (Nat.zero_le _) fun i hi => ?_
 ·repeat' (first|exact trivial|rfl|refine And.intro ?_ ?_|(exact wkI (by first|omega|(simp only; omega)|(simp; omega))))
 have hcl := cellsOf_len h.Kernel o.Addr i
 by_cases li : i < o.Size.toNat
 ·obtain ⟨f0, f1⟩ := frame_in hk ((o.Addr + i) / 16)
  have hx := get_nth (xs := h.Kernel.Machine.Frames.Cells) (i := (pageEntry h.Kernel.Machine.Table ((o.Addr + i) / 16)).Frame.toNat) (by omega)
  have h16 := (row_ok hk (j := (pageEntry h.Kernel.Machine.Table ((o.Addr + i) / 16)).Frame.toNat) (by omega)).1
  have hy := get_nth (xs := nth h.Kernel.Machine.Frames.Cells (pageEntry h.Kernel.Machine.Table ((o.Addr + i) / 16)).Frame.toNat) (i := ((o.Addr + i) % 16).toNat) (by omega)
  have q1 : IntKind.i64.wrap ((o.Addr + (i : Int)).tdiv 16) = (o.Addr + i) / 16 := by rw [tdiv_pos (by omega)]; exact wrapI (by omega) (by omega)
  have q2 : (o.Addr + (i : Int)).tmod 16 = (o.Addr + i) % 16 := tmod_pos (by omega)
  repeat' ((conv=>whnf);first|with_reducible (first|refine Lm ?_|refine Wm (by omega) ?_|refine dT (by omega) (fun hq => ?_)|refine Bn ?_|refine Fm rfl ?_)|refine Bt ?_|refine Bu ?_|refine Cd.mk (by decide) ?_|refine Wr.mk q1 ?_|refine Ev.mk q2 ?_|refine Cl.mk (PageEntry_spec h.Kernel.Machine.Table _ hs.1.2) ?_|refine Ix.mk f0 (get_map hx) ?_|refine Ix.mk (by omega) (get_map hy) ?_|refine Ap.sn rowI_one rfl (by simp; omega) (by decide) rfl ?_)
  (conv=>whnf)
  refine Nx.mk (i + 1) (by omega) (by omega) ?_
  rw [cellsOf_succ]
  (repeat' (first|exact trivial|rfl|exact And.intro rfl (And.intro (congrArg (C.s Own.own) (by simp [rI, cellOf])) trivial)|refine And.intro ?_ ?_))
 ·repeat' ((conv=>whnf);first|with_reducible (first|refine Lm ?_|refine Wm (by omega) ?_|refine dF (by omega) (fun hq => ?_)|refine Bn ?_|refine Fm rfl ?_)|refine Bt ?_|refine Bu ?_)
  obtain rfl : i = o.Size.toNat := by omega
  rfl
theorem cellsAt_impl (h : DHeap) (a n : Int) (hk : kernelOk h.Kernel = true) (ha : 0 ≤ a ∧ a ≤ 1000000) (hn : n ≤ 1000000) :
  CallsA Tryz.prog 92 false [.val (some 24) (DHeap.enc .imm h), .val none [I a], .val none [I n]] .one (rIntS .own (cellsOf h.Kernel a n.toNat)) := by
 have hs := kernelOk_sml hk
 refine fO (n := 44) [] Tryz.func92 (by kernel_rfl) rfl (by kernel_rfl) (by rfl) (.inr (rIntS_fr _)) ?_
 repeat' ((conv=>whnf);first|with_reducible (first|refine Lm ?_|refine Wm (by omega) ?_|refine Bn ?_|refine Fm rfl ?_)|refine Bt ?_|refine Bu ?_)
 (conv=>whnf)
 refine Lp.mk (ι := Nat) (fun i => [(1, .hold .one [I (a)]), (2, .hold .one [I (n)]), (3, .hold .box (DHeap.enc .imm h)), (7, .hold .one (rIntS .own (cellsOf h.Kernel a i))), (8, .hold .one [I ((i : Nat) : Int)])]) (fun i => i ≤ n.toNat) (fun i => n.toNat - i) (0) ?_ (Nat.zero_le _) fun i hi => ?_
 ·repeat' (first|exact trivial|rfl|refine And.intro ?_ ?_|(exact wkI (by first|omega|(simp only; omega)|(simp; omega))))
 have hcl := cellsOf_len h.Kernel a i
 by_cases li : i < n.toNat
 ·obtain ⟨f0, f1⟩ := frame_in hk ((a + i) / 16)
  have hx := get_nth (xs := h.Kernel.Machine.Frames.Cells) (i := (pageEntry h.Kernel.Machine.Table ((a + i) / 16)).Frame.toNat) (by omega)
  have h16 := (row_ok hk (j := (pageEntry h.Kernel.Machine.Table ((a + i) / 16)).Frame.toNat) (by omega)).1
  have hy := get_nth (xs := nth h.Kernel.Machine.Frames.Cells (pageEntry h.Kernel.Machine.Table ((a + i) / 16)).Frame.toNat) (i := ((a + i) % 16).toNat) (by omega)
  have q1 : IntKind.i64.wrap ((a + (i : Int)).tdiv 16) = (a + i) / 16 := by rw [tdiv_pos (by omega)]; exact wrapI (by omega) (by omega)
  have q2 : (a + (i : Int)).tmod 16 = (a + i) % 16 := tmod_pos (by omega)
  repeat' ((conv=>whnf);first|with_reducible (first|refine Lm ?_|refine Wm (by omega) ?_|refine dT (by omega) (fun hq => ?_)|refine Bn ?_|refine Fm rfl ?_)|refine Bt ?_|refine Bu ?_|refine Cd.mk (by decide) ?_|refine Wr.mk q1 ?_|refine Ev.mk q2 ?_|refine Cl.mk (PageEntry_impl h.Kernel.Machine.Table _ hs.1.2) ?_|refine Ix.mk f0 (get_map hx) ?_|refine Ix.mk (by omega) (get_map hy) ?_|refine Ap.sn rowI_one rfl (by simp; omega) (by decide) rfl ?_)
  (conv=>whnf)
  refine Nx.mk (i + 1) (by omega) (by omega) ?_
  rw [cellsOf_succ]
  (repeat' (first|exact trivial|rfl|exact And.intro rfl (And.intro (congrArg (C.s Own.own) (by simp [rI, cellOf])) trivial)|refine And.intro ?_ ?_))
 ·repeat' ((conv=>whnf);first|with_reducible (first|refine Lm ?_|refine Wm (by omega) ?_|refine dF (by omega) (fun hq => ?_)|refine Bn ?_|refine Fm rfl ?_)|refine Bt ?_|refine Bu ?_)
  obtain rfl : i = n.toNat := by omega
  rfl
end Go.Proofs.YtjgjnlppphejpaaGreat.Ab
/- What is known of the objects of a valid heap, and the facts that are told of them, as plain functions. No condition. -/
namespace Go.Proofs.YtjgjnlppphejpaaGreat.Ab
/-- Whom an address belongs to that is a live slot's or a large object's. -/
theorem denotes_live {sp : List DSpan} {la : List DLarge} {a : Int} (h : (denotes sp la a).Kind = 1) : ∃ i : Nat, i < sp.length ∧ (denotes sp la a).Index = i ∧ slotIn (nth sp i) a = true ∧ denotes sp la a = ownS i (nth sp i) a := by
 unfold denotes at h ⊢
 cases e : sp.findIdx? (slotIn · a) with
 | some i =>
  obtain ⟨hi, hp, -⟩ := List.findIdx?_eq_some_iff_getElem.1 e
  refine ⟨i, hi, rfl, ?_, rfl⟩
  rw [nth_of (List.getElem?_eq_getElem hi)]; exact hp
 | none =>
  rw [e] at h
  simp only at h
  cases e2 : la.findIdx? (largeHas · a) with
  | some i => rw [e2] at h; simp at h
  | none => rw [e2] at h; simp at h
theorem denotes_lrg {sp : List DSpan} {la : List DLarge} {a : Int} (h : (denotes sp la a).Kind = 3) : ∃ i : Nat, i < la.length ∧ (denotes sp la a).Index = i ∧ largeHas (nth la i) a = true ∧ denotes sp la a = ⟨3, i, 0, a - 16 * (nth la i).Page⟩ := by
 unfold denotes at h ⊢
 cases e : sp.findIdx? (slotIn · a) with
 | some i =>
  rw [e] at h
  simp only [ownS] at h
  split at h <;> simp at h
 | none =>
  rw [e] at h
  simp only at h ⊢
  cases e2 : la.findIdx? (largeHas · a) with
  | some i =>
   obtain ⟨hi, hp, -⟩ := List.findIdx?_eq_some_iff_getElem.1 e2
   refine ⟨i, hi, rfl, ?_, rfl⟩
   rw [nth_of (List.getElem?_eq_getElem hi)]; exact hp
  | none => rw [e2] at h; simp at h
theorem classOf_bd {n : Int} (h : 0 ≤ classOf n) : 1 ≤ n ∧ n ≤ 8 := by
 unfold classOf at h
 split at h
 ·omega
 ·split at h
  ·omega
  ·split at h
   ·omega
   ·split at h
    ·omega
    ·split at h <;> omega
theorem owns_bd {h : DHeap} {o : DObj} (ho : ownsObj h o = true) : 0 ≤ o.Addr ∧ o.Addr ≤ 2000 ∧ 1 ≤ o.Size ∧ o.Size ≤ 1000 := by
 unfold ownsObj at ho
 simp only [Bool.and_eq_true, Bool.or_eq_true, decide_eq_true_eq] at ho
 obtain ⟨-, ⟨hk, hc⟩ | ⟨hk, hc⟩⟩ := ho
 ·obtain ⟨i, hi, hix, hs, -⟩ := denotes_live hk
  rw [hix, Int.toNat_natCast] at hc
  unfold slotIn spanOk at hs
  simp only [Bool.and_eq_true, decide_eq_true_eq] at hs
  have := classOf_bd (n := o.Size) (by omega)
  omega
 ·obtain ⟨i, hi, hix, hs, -⟩ := denotes_lrg hk
  rw [hix, Int.toNat_natCast] at hc
  unfold largeHas largeOk at hs
  simp only [Bool.and_eq_true, decide_eq_true_eq] at hs
  omega
theorem heapS_nums {h : DHeap} (hh : heapS h = true) : numsOk h = true ∧ objsAll h = true := by
 unfold heapS at hh
 simp only [Bool.and_eq_true] at hh
 exact ⟨hh.1.1.2, hh.1.2.1⟩
theorem next_bd {h : DHeap} (hh : heapS h = true) : 1 ≤ h.Next ∧ h.Next ≤ 1000000 := by
 have := (heapS_nums hh).1
 unfold numsOk at this
 rw [decide_eq_true_eq] at this
 omega
theorem obj_bd {h : DHeap} (hh : heapS h = true) {i : Nat} (hi : i < h.Objs.length) : 1 ≤ (nth h.Objs i).Id ∧ (nth h.Objs i).Id < h.Next ∧ 0 ≤ (nth h.Objs i).Addr ∧ (nth h.Objs i).Addr ≤ 2000 ∧ 1 ≤ (nth h.Objs i).Size ∧ (nth h.Objs i).Size ≤ 1000 ∧ ∀ j, j < i → (nth h.Objs j).Id ≠ (nth h.Objs i).Id := by
 obtain ⟨-, ho⟩ := heapS_nums hh
 obtain ⟨n1, n2⟩ := next_bd hh
 have h1 := allN_at ho hi
 rw [wrapI (by omega) (by omega)] at h1
 unfold objAt objNums at h1
 simp only [Bool.and_eq_true, decide_eq_true_eq, Bool.not_eq_true'] at h1
 obtain ⟨⟨h2, h3⟩, h4⟩ := h1
 have h5 := owns_bd h4
 refine ⟨h2.2.1, by omega, h5.1, h5.2.1, h5.2.2.1, h5.2.2.2, fun j hj e => ?_⟩
 rw [List.any_eq_false] at h3
 refine h3 (nth h.Objs j) ?_ (by unfold sameId; exact decide_eq_true e)
 have : (h.Objs.take i)[j]? = some (nth h.Objs j) := by rw [List.getElem?_take, if_pos hj, get_nth (by omega)]
 exact List.mem_of_getElem? this
theorem obj_ne {h : DHeap} (hh : heapS h = true) {i j : Nat} (hi : i < h.Objs.length) (hj : j < h.Objs.length) (hne : i ≠ j) : (nth h.Objs i).Id ≠ (nth h.Objs j).Id := by
 rcases Nat.lt_or_ge i j with h1 | h1
 ·exact (obj_bd hh hj).2.2.2.2.2.2 i h1
 ·exact fun e => (obj_bd hh hi).2.2.2.2.2.2 j (by omega) e.symm
end Go.Proofs.YtjgjnlppphejpaaGreat.Ab
/- Lists of numbers compared and searched; mapped pages, spans' cells, live cells; objects and their contents. No condition. -/
namespace Go.Proofs.YtjgjnlppphejpaaGreat.Ab
open Go.RowKit
set_option maxRecDepth 20000
set_option maxHeartbeats 4000000
theorem nth_ext {α : Type} [Inhabited α] {a b : List α} (hl : a.length = b.length) (h : ∀ j, j < a.length → nth a j = nth b j) : a = b := by
 refine List.ext_getElem hl fun j h1 h2 => ?_
 have := h j h1
 rwa [nth_of (List.getElem?_eq_getElem h1), nth_of (List.getElem?_eq_getElem h2)] at this
theorem l33Same_spec (a b : List Int) (hl : a.length ≤ 1048576) : CallsA Tryz.prog 170 false [.val none (rIntS .imm a), .val none (rIntS .imm b)] .one [B (decide (a = b))] := by
 refine fO (n := 26) [(6,8,[17,18,19,20,21,22,23,24])] Tryz.func170 (by kernel_rfl) rfl (by kernel_rfl) (by rfl) (.inr ⟨trivial, trivial⟩) ?_
 by_cases hab : a.length = b.length
 ·repeat' ((conv=>whnf);first|with_reducible (first|refine Lm ?_|refine Wm (by omega) ?_|refine nF (by omega) (fun hq => ?_)|refine Bn ?_|refine Fm rfl ?_)|refine Bt ?_|refine Bu ?_)
  (conv=>whnf)
  refine Lp.mk (ι := Nat) (fun i => [(0, .hold .one (rIntS .imm a)), (1, .hold .one (rIntS .imm b)), (5, .hold .one [I ((i : Nat) : Int)])]) (fun i => i ≤ a.length ∧ allN i (fun j => decide (nth a j = nth b j)) = true) (fun i => a.length - i) 0 ?_ ⟨Nat.zero_le _, rfl⟩ fun i hi => ?_
  ·repeat' (first|exact trivial|rfl|refine And.intro ?_ ?_|(exact wkI (by first|omega|(simp only; omega)|(simp; omega))))
  obtain ⟨hi, ai⟩ := hi
  by_cases li : i < a.length
  ·have hx := get_nth li
   have hy := get_nth (xs := b) (i := i) (by omega)
   by_cases e : nth a i = nth b i
   ·repeat' ((conv=>whnf);first|with_reducible (first|refine Lm ?_|refine Wm (by omega) ?_|refine Ix.nat (get_map hx) ?_|refine Ix.nat (get_map hy) ?_|refine dT (by omega) (fun hq => ?_)|refine nF (by omega) (fun hq => ?_)|refine Bn ?_|refine Fm rfl ?_)|refine Bt ?_|refine Bu ?_)
    ((conv=>whnf);refine Nx.mk (i + 1) ⟨by omega, allN_yes ai (decide_eq_true e)⟩ (by omega) ?_; (repeat' (first|exact trivial|rfl|refine And.intro ?_ ?_|(exact wkI (by first|omega|(simp only; omega)|(simp; omega))))))
   ·repeat' ((conv=>whnf);first|with_reducible (first|refine Lm ?_|refine Wm (by omega) ?_|refine Ix.nat (get_map hx) ?_|refine Ix.nat (get_map hy) ?_|refine dT (by omega) (fun hq => ?_)|refine nT (by omega) (fun hq => ?_)|refine Bn ?_|refine Fm rfl ?_)|refine Bt ?_|refine Bu ?_)
    exact congrArg (fun z => [B z]) ((by symm; exact decide_eq_false fun h => e (by rw [h])))
  ·repeat' ((conv=>whnf);first|with_reducible (first|refine Lm ?_|refine Wm (by omega) ?_|refine dF (by omega) (fun hq => ?_)|refine Bn ?_|refine Fm rfl ?_)|refine Bt ?_|refine Bu ?_)
   obtain rfl : i = a.length := by omega
   exact congrArg (fun z => [B z]) ((by symm; exact decide_eq_true (nth_ext hab fun j hj => by have := allN_at ai hj; simpa using this)))
 ·repeat' ((conv=>whnf);first|with_reducible (first|refine Lm ?_|refine Wm (by omega) ?_|refine nT (by omega) (fun hq => ?_)|refine Bn ?_|refine Fm rfl ?_)|refine Bt ?_|refine Bu ?_)
  exact congrArg (fun z => [B z]) ((by symm; exact decide_eq_false fun h => hab (by rw [h])))
theorem Equal_ints (a b : List Int) (hl : a.length ≤ 1048576) : CallsA Tryz.prog 187 false [.val none (rIntS .imm a), .val none (rIntS .imm b)] .one [B (decide (a = b))] := by
 refine fO (n := 26) [(6,8,[16,17,18,19,20,21,22,23])] Tryz.func187 (by kernel_rfl) rfl (by kernel_rfl) (by rfl) (.inr ⟨trivial, trivial⟩) ?_
 by_cases hab : a.length = b.length
 ·repeat' ((conv=>whnf);first|with_reducible (first|refine Lm ?_|refine Wm (by omega) ?_|refine nF (by omega) (fun hq => ?_)|refine Bn ?_|refine Fm rfl ?_)|refine Bt ?_|refine Bu ?_)
  (conv=>whnf)
  refine Lp.mk (ι := Nat) (fun i => [(0, .hold .one (rIntS .imm a)), (1, .hold .one (rIntS .imm b)), (12, .hold .one [I (a.length)]), (13, .hold .one [I ((i : Nat) : Int)])]) (fun i => i ≤ a.length ∧ allN i (fun j => decide (nth a j = nth b j)) = true) (fun i => a.length - i) 0 ?_ ⟨Nat.zero_le _, rfl⟩ fun i hi => ?_
  ·repeat' (first|exact trivial|rfl|refine And.intro ?_ ?_|(exact wkI (by first|omega|(simp only; omega)|(simp; omega))))
  obtain ⟨hi, ai⟩ := hi
  by_cases li : i < a.length
  ·have hx := get_nth li
   have hy := get_nth (xs := b) (i := i) (by omega)
   by_cases e : nth a i = nth b i
   ·repeat' ((conv=>whnf);first|with_reducible (first|refine Lm ?_|refine Wm (by omega) ?_|refine Ix.nat (get_map hx) ?_|refine Ix.nat (get_map hy) ?_|refine dT (by omega) (fun hq => ?_)|refine nF (by omega) (fun hq => ?_)|refine Bn ?_|refine Fm rfl ?_)|refine Bt ?_|refine Bu ?_)
    ((conv=>whnf);refine Nx.mk (i + 1) ⟨by omega, allN_yes ai (decide_eq_true e)⟩ (by omega) ?_; (repeat' (first|exact trivial|rfl|refine And.intro ?_ ?_|(exact wkI (by first|omega|(simp only; omega)|(simp; omega))))))
   ·repeat' ((conv=>whnf);first|with_reducible (first|refine Lm ?_|refine Wm (by omega) ?_|refine Ix.nat (get_map hx) ?_|refine Ix.nat (get_map hy) ?_|refine dT (by omega) (fun hq => ?_)|refine nT (by omega) (fun hq => ?_)|refine Bn ?_|refine Fm rfl ?_)|refine Bt ?_|refine Bu ?_)
    exact congrArg (fun z => [B z]) ((by symm; exact decide_eq_false fun h => e (by rw [h])))
  ·repeat' ((conv=>whnf);first|with_reducible (first|refine Lm ?_|refine Wm (by omega) ?_|refine dF (by omega) (fun hq => ?_)|refine Bn ?_|refine Fm rfl ?_)|refine Bt ?_|refine Bu ?_)
   obtain rfl : i = a.length := by omega
   exact congrArg (fun z => [B z]) ((by symm; exact decide_eq_true (nth_ext hab fun j hj => by have := allN_at ai hj; simpa using this)))
 ·repeat' ((conv=>whnf);first|with_reducible (first|refine Lm ?_|refine Wm (by omega) ?_|refine nT (by omega) (fun hq => ?_)|refine Bn ?_|refine Fm rfl ?_)|refine Bt ?_|refine Bu ?_)
  exact congrArg (fun z => [B z]) ((by symm; exact decide_eq_false fun h => hab (by rw [h])))
theorem has_not {xs : List Int} {x : Int} (h : allN xs.length (fun j => decide (nth xs j ≠ x)) = true) : x ∉ xs := fun hm => by
 obtain ⟨j, hj⟩ := List.mem_iff_getElem?.1 hm
 have := allN_at h (List.getElem?_eq_some_iff.1 hj).1
 rw [nth_of hj] at this
 simp at this
theorem l08Has_spec (xs : List Int) (x : Int) (hl : xs.length ≤ 4611686018427387904) : CallsA Tryz.prog 173 false [.val none (rIntS .imm xs), .val none [I x]] .one [B (decide (x ∈ xs))] := by
 refine fO (n := 18) [] Tryz.func173 (by kernel_rfl) rfl (by kernel_rfl) (by rfl) (.inr ⟨trivial, trivial⟩) ?_
 repeat' ((conv=>whnf);first|with_reducible (first|refine Lm ?_|refine Wm (by omega) ?_|refine Bn ?_|refine Fm rfl ?_)|refine Bt ?_|refine Bu ?_)
 (conv=>whnf)
 refine Lp.mk (ι := Nat) (fun i => [(0, .hold .one (rIntS .imm xs)), (1, .hold .one [I (x)]), (5, .hold .one [I ((i : Nat) : Int)])]) (fun i => i ≤ xs.length ∧ allN i (fun j => decide (nth xs j ≠ x)) = true) (fun i => xs.length - i) 0 ?_ ⟨Nat.zero_le _, rfl⟩ fun i hi => ?_
 ·repeat' (first|exact trivial|rfl|refine And.intro ?_ ?_|(exact wkI (by first|omega|(simp only; omega)|(simp; omega))))
 obtain ⟨hi, ai⟩ := hi
 by_cases li : i < xs.length
 ·have hx := get_nth li
  by_cases e : nth xs i = x
  ·repeat' ((conv=>whnf);first|with_reducible (first|refine Lm ?_|refine Wm (by omega) ?_|refine Ix.nat (get_map hx) ?_|refine dT (by omega) (fun hq => ?_)|refine eT (by omega) (fun hq => ?_)|refine Bn ?_|refine Fm rfl ?_)|refine Bt ?_|refine Bu ?_)
   exact congrArg (fun z => [B z]) ((by symm; exact decide_eq_true (by rw [← e]; exact nth_mem li)))
  ·repeat' ((conv=>whnf);first|with_reducible (first|refine Lm ?_|refine Wm (by omega) ?_|refine Ix.nat (get_map hx) ?_|refine dT (by omega) (fun hq => ?_)|refine eF (by omega) (fun hq => ?_)|refine Bn ?_|refine Fm rfl ?_)|refine Bt ?_|refine Bu ?_)
   ((conv=>whnf);refine Nx.mk (i + 1) ⟨by omega, allN_yes ai (decide_eq_true e)⟩ (by omega) ?_; (repeat' (first|exact trivial|rfl|refine And.intro ?_ ?_|(exact wkI (by first|omega|(simp only; omega)|(simp; omega))))))
 ·repeat' ((conv=>whnf);first|with_reducible (first|refine Lm ?_|refine Wm (by omega) ?_|refine dF (by omega) (fun hq => ?_)|refine Bn ?_|refine Fm rfl ?_)|refine Bt ?_|refine Bu ?_)
  obtain rfl : i = xs.length := by omega
  exact congrArg (fun z => [B z]) ((by symm; exact decide_eq_false (has_not ai)))
theorem Index_ints (xs : List Int) (x : Int) (hl : xs.length ≤ 4611686018427387904) : CallsA Tryz.prog 278 false [.val none (rIntS .imm xs), .val none [I x]] .one [I (fstIx (fun y => decide (y = x)) xs)] := by
 refine fO (n := 19) [] Tryz.func278 (by kernel_rfl) rfl (by kernel_rfl) (by rfl) (.inr ⟨trivial, trivial⟩) ?_
 repeat' ((conv=>whnf);first|with_reducible (first|refine Lm ?_|refine Wm (by omega) ?_|refine Bn ?_|refine Fm rfl ?_)|refine Bt ?_|refine Bu ?_)
 (conv=>whnf)
 refine Lp.mk (ι := Nat) (fun i => [(0, .hold .one (rIntS .imm xs)), (1, .hold .one [I (x)]), (7, .hold .one [I (xs.length)]), (8, .hold .one [I ((i : Nat) : Int)])]) (fun i => i ≤ xs.length ∧ ∀ (j : Nat) (z : Int), j < i → xs[j]? = some z → decide (z = x) = false) (fun i => xs.length - i) (0) ?_ (⟨Nat.zero_le _, fun j z hj _ => absurd hj (Nat.not_lt_zero _)⟩) fun i hi => ?_
 ·repeat' (first|exact trivial|rfl |refine And.intro ?_ ?_|(exact wkI (by first|omega|(simp only; omega)|(simp; omega))))
 obtain ⟨hi, ha⟩ := hi
 by_cases li : i < xs.length
 ·have hx := get_nth li
  by_cases e : nth xs i = x
  ·repeat' ((conv=>whnf);first|with_reducible (first|refine Lm ?_|refine Wm (by omega) ?_|refine Ix.nat (get_map hx) ?_|refine dT (by omega) (fun hq => ?_)|refine Bn ?_|refine Fm rfl ?_)|refine Bt ?_|refine Bu ?_|refine Bf.t (by simp [e]) ?_)
   exact congrArg (fun z => [I z]) (fstIx_yes hx (decide_eq_true e) ha).symm
  ·repeat' ((conv=>whnf);first|with_reducible (first|refine Lm ?_|refine Wm (by omega) ?_|refine Ix.nat (get_map hx) ?_|refine dT (by omega) (fun hq => ?_)|refine Bn ?_|refine Fm rfl ?_)|refine Bt ?_|refine Bu ?_|refine Bf.f (by simp [Ne.symm e]) ?_)
   ((conv=>whnf);refine Nx.mk (i + 1) ⟨by omega, idx_next hx (decide_eq_false e) ha⟩ (by omega) ?_; (repeat' (first|exact trivial|rfl|refine And.intro ?_ ?_|(exact wkI (by first|omega|(simp only; omega)|(simp; omega))))))
 ·repeat' ((conv=>whnf);first|with_reducible (first|refine Lm ?_|refine Wm (by omega) ?_|refine dF (by omega) (fun hq => ?_)|refine Bn ?_|refine Fm rfl ?_)|refine Bt ?_|refine Bu ?_)
  exact congrArg (fun z => [I z]) (fstIx_no (by omega) ha).symm
theorem Contains_ints (xs : List Int) (x : Int) (hl : xs.length ≤ 4611686018427387904) : CallsA Tryz.prog 195 false [.val none (rIntS .imm xs), .val none [I x]] .one [B (decide (x ∈ xs))] := by
 refine fO (n := 9) [] Tryz.func195 (by kernel_rfl) rfl (by kernel_rfl) (by rfl) (.inr ⟨trivial, trivial⟩) ?_
 repeat' ((conv=>whnf);first|with_reducible (first|refine Lm ?_|refine Wm (by omega) ?_|refine Bn ?_|refine Fm rfl ?_)|refine Bt ?_|refine Bu ?_|refine Cl.mk (Index_ints xs x hl) ?_)
 exact congrArg (fun z => [B z]) ((by rw [fstIx_any]; rw [Bool.eq_iff_iff]; simp))
end Go.Proofs.YtjgjnlppphejpaaGreat.Ab
/- What is asked of a whole world, as plain functions: sums, a span's cells, the account, objects of the reference's list, clear pages. No condition. -/
namespace Go.Proofs.YtjgjnlppphejpaaGreat.Ab
/- sums -/
def sumF {α : Type} [Inhabited α] (f : α → Int) (xs : List α) : Nat → Int
 | 0 => 0
 | i + 1 => sumF f xs i + f (nth xs i)
theorem sumF_bd {α : Type} [Inhabited α] {f : α → Int} {xs : List α} {b : Int} (h : ∀ y ∈ xs, 0 ≤ f y ∧ f y ≤ b) : ∀ i : Nat, i ≤ xs.length → 0 ≤ sumF f xs i ∧ sumF f xs i ≤ b * i
 | 0, _ => by simp [sumF]
 | i + 1, hi => by
  have h1 := sumF_bd h i (by omega)
  have h2 := h _ (nth_mem (xs := xs) (i := i) (by omega))
  have h3 : b * ((i + 1 : Nat) : Int) = b * i + b := by rw [Int.natCast_add, Int.mul_add]; simp
  simp only [sumF]
  omega
/- mapped pages -/
def isMapped (e : DEntry) : Int := if e.Mode ≠ 0 then 1 else 0
theorem isMapped_bd (e : DEntry) : 0 ≤ isMapped e ∧ isMapped e ≤ 1 := by unfold isMapped; split <;> omega
def mappedPages (t : DTable) : Int := sumF isMapped t.Entries t.Entries.length
/- a span's cells -/
def inSlot (s : DSpan) (c : Nat) : Bool := hasSlot s.Bits (((c : Nat) : Int) / csz s.Class)
def scN (s : DSpan) (n : Nat) : List Int := ((List.range n).filter (inSlot s)).map fun (i : Nat) => (i : Int)
theorem scN_yes {s : DSpan} {n : Nat} (h : inSlot s n = true) : scN s (n + 1) = scN s n ++ [(n : Int)] := by
 unfold scN; rw [List.range_succ, List.filter_append, List.map_append]; simp [h]
theorem scN_no {s : DSpan} {n : Nat} (h : inSlot s n = false) : scN s (n + 1) = scN s n := by
 unfold scN; rw [List.range_succ, List.filter_append, List.map_append]; simp [h]
theorem scN_len (s : DSpan) (n : Nat) : (scN s n).length ≤ n := by
 unfold scN; rw [List.length_map]; exact Nat.le_trans (List.length_filter_le _ _) (by simp)
theorem mem_scN {s : DSpan} {n : Nat} {z : Int} : z ∈ scN s n ↔ ∃ c : Nat, c < n ∧ inSlot s c = true ∧ z = c := by
 unfold scN; simp only [List.mem_map, List.mem_filter, List.mem_range]
 constructor
 ·rintro ⟨c, ⟨h1, h2⟩, rfl⟩; exact ⟨c, h1, h2, rfl⟩
 ·rintro ⟨c, h1, h2, rfl⟩; exact ⟨c, ⟨h1, h2⟩, rfl⟩
def scL (s : DSpan) : Int := ((scN s 16).length : Nat)
theorem scL_bd (s : DSpan) : 0 ≤ scL s ∧ scL s ≤ 16 := by have := scN_len s 16; unfold scL; omega
def liveCells (sp : List DSpan) (la : List DLarge) : Int := sumF scL sp sp.length + sumF (·.Size) la la.length
theorem size_bd {la : List DLarge} (h : la.all largeOk = true) : ∀ l ∈ la, 0 ≤ l.Size ∧ l.Size ≤ 1000 := fun l hl => by
 have h1 := List.all_eq_true.1 h l hl
 unfold largeOk at h1
 rw [decide_eq_true_eq] at h1
 omega
/- what a valid heap is -/
theorem heapS_all {h : DHeap} (hh : heapS h = true) : kernelOk h.Kernel = true ∧ layoutOk h.Spans h.Larges = true ∧ pages0 h = true ∧ meshS h = true ∧ mailOk h.Mail = true ∧ (h.Caches.all cacheOk = true ∧ h.Caches.length = h.Mail.Buffers.length) ∧ quarOk h.Quar = true ∧ objsAll h = true ∧ heldAll h = true ∧ (holders h).Nodup ∧ (holders h).length = (liveS h.Spans h.Larges).length := by
 unfold heapS layAll mailCaches onceS at hh
 simp only [Bool.and_eq_true, decide_eq_true_eq] at hh
 obtain ⟨⟨⟨⟨⟨⟨⟨⟨⟨⟨k1, -⟩, k2⟩, k3⟩, k4⟩, ⟨⟨k5, k6⟩, k7⟩⟩, -⟩, k8⟩, -⟩, k9, ⟨k10, k11⟩, k12⟩, -⟩ := hh
 exact ⟨k1, k2, k3, k4, k5, ⟨k8, k6⟩, k7, k9, k10, k11, k12⟩
theorem live_held {h : DHeap} (hh : heapS h = true) {a : Int} (ha : a ∈ liveS h.Spans h.Larges) : a ∈ holders h := by
 obtain ⟨-, k2, -, -, -, -, -, k8, k9, k10, k11⟩ := heapS_all hh
 exact sub_of_len k10 (holders_live (Lay.of k2) k8 k9) (by omega) a ha
/- the account -/
def objCost (o : DObj) : Int := if 0 ≤ classOf o.Size then csz (classOf o.Size) else o.Size
theorem obj_size {h : DHeap} (hh : heapS h = true) : ∀ o ∈ h.Objs, 1 ≤ o.Size ∧ o.Size ≤ 1000 := fun o ho => by
 obtain ⟨i, hi, rfl⟩ := mem_nth ho
 obtain ⟨b1, b2, b3, b4, b5, b6, -⟩ := obj_bd hh hi
 exact ⟨b5, b6⟩
theorem csz8 (k : Int) : 0 ≤ csz k ∧ csz k ≤ 8 := csz_bd k
theorem objCost_bd {h : DHeap} (hh : heapS h = true) : ∀ o ∈ h.Objs, 0 ≤ objCost o ∧ objCost o ≤ 1000 := fun o ho => by
 have h1 := obj_size hh o ho
 have h2 := csz8 (classOf o.Size)
 unfold objCost
 split <;> omega
theorem cacheSum_bd : ∀ (ls : List (List Int)) (k : Nat), (∀ l ∈ ls, l.length ≤ 8) → 0 ≤ cacheSum k ls ∧ cacheSum k ls ≤ 64 * ls.length
 | [], _, _ => by simp [cacheSum]
 | l :: ls, k, h => by
  have h1 := cacheSum_bd ls (k + 1) fun y hy => h y (List.mem_cons_of_mem _ hy)
  have h2 := csz_le k
  have h3 := prod_le (h l (List.mem_cons_self ..)) h2.1 h2.2
  simp only [cacheSum, List.length_cons]
  omega
theorem cacheCells_bd (c : DCache) : 0 ≤ cacheCells c ∧ cacheCells c ≤ 256 := by
 unfold cacheCells
 split
 ·rename_i h
  obtain ⟨h1, h2⟩ := cacheOk_yes h
  have := cacheSum_bd c.Lists 0 h2
  omega
 ·omega
def postCost (h : DHeap) (a : Int) : Int := csz (nth h.Spans (spanOn h (a / 16)).toNat).Class
def accountOf (h : DHeap) : DAccount :=
 ⟨pgN h, mappedPages h.Kernel.Machine.Table, usedFrames h.Kernel.Machine.Frames, liveCells h.Spans h.Larges, sumF objCost h.Objs h.Objs.length, sumF cacheCells h.Caches h.Caches.length, quarCells h.Quar.Lst h.Quar.Lst.length, sumF (postCost h) (inFlight h.Mail) (inFlight h.Mail).length⟩
/-- An address on its way lies in a span. -/
theorem fly_at {h : DHeap} (hh : heapS h = true) {a : Int} (ha : a ∈ inFlight h.Mail) : ∃ i : Nat, i < h.Spans.length ∧ (denotes h.Spans h.Larges a).Index = i ∧ spanOn h (a / 16) = i ∧ 0 ≤ a ∧ a ≤ 600 := by
 obtain ⟨-, k2, -, -, -, -, -, -, k9, -⟩ := heapS_all hh
 have h1 := List.all_eq_true.1 ((heldAll_iff h).1 k9).2 a ha
 unfold flyHeld slotHeld at h1
 simp only [Bool.and_eq_true, decide_eq_true_eq] at h1
 obtain ⟨i, hi, hx, hs, -⟩ := denotes_live h1.1.1
 have hL := Lay.of k2
 have hc := spanOk_class (hL.sok _ (nth_mem hi))
 have h2 := (slotIn_iff (hL.sok _ (nth_mem hi))).1 hs
 refine ⟨i, hi, hx, ?_, by omega, by omega⟩
 rw [show a / 16 = (nth h.Spans i).Page by omega]
 exact spanOn_at hL hi
def accFits (a : DAccount) : Bool := decide ((0 ≤ a.Pages ∧ a.Pages ≤ 100000) ∧ (0 ≤ a.Mapped ∧ a.Mapped ≤ 100000) ∧ (0 ≤ a.Frames ∧ a.Frames ≤ 100000) ∧ (0 ≤ a.Held ∧ a.Held ≤ 100000) ∧ (0 ≤ a.Live ∧ a.Live ≤ 100000) ∧ (0 ≤ a.Cached ∧ a.Cached ≤ 100000) ∧ (0 ≤ a.Stale ∧ a.Stale ≤ 100000) ∧ (0 ≤ a.Posted ∧ a.Posted ≤ 100000) ∧ a.Held = a.Live + a.Cached + a.Stale + a.Posted ∧ a.Frames ≤ a.Mapped ∧ a.Mapped ≤ a.Pages)
/- clear pages -/
def rowOf (h : DHeap) (p : Nat) : List Int := nth h.Kernel.Machine.Frames.Cells (nth (tbl h).Entries p).Frame.toNat
def maySet (h : DHeap) (p c : Nat) : Bool := (h.Spans.any fun s => decide (s.Page ∈ framePages h (p : Nat)) && inSlot s c) || h.Larges.any fun l => largeHas l (16 * (p : Nat) + (c : Nat))
def pageClear (h : DHeap) (p : Nat) : Bool := allN 16 fun c => decide (nth (rowOf h p) c = 0) || maySet h p c
/-- The bits of all spans on a frame, as the reference gathers them. -/
def bor (n m : Int) : Int := ((n.toNat ||| m.toNat : Nat) : Int)
def orOn (sp : List DSpan) (p : Int) (b : Int) : Nat → Int
 | 0 => b
 | j + 1 => if (nth sp j).Page = p then bor (orOn sp p b j) (nth sp j).Bits else orOn sp p b j
def orAll (sp : List DSpan) (ps : List Int) (b : Int) : Nat → Int
 | 0 => b
 | k + 1 => orOn sp (nth ps k) (orAll sp ps b k) sp.length
def usedBits (h : DHeap) (i : Nat) : Int := orAll h.Spans (framePages h (nth h.Spans i).Page) (nth h.Spans i).Bits (framePages h (nth h.Spans i).Page).length
theorem bor_bd {n m : Int} (h1 : 0 ≤ n ∧ n ≤ 65535) (h2 : 0 ≤ m ∧ m ≤ 65535) : 0 ≤ bor n m ∧ bor n m ≤ 65535 := by
 have h3 : n.toNat ||| m.toNat < 2 ^ 16 := Nat.or_lt_two_pow (by omega) (by omega)
 unfold bor
 omega
theorem bits_bd {sp : List DSpan} (h : ∀ s ∈ sp, spanOk s = true) {j : Nat} (hj : j < sp.length) : 0 ≤ (nth sp j).Bits ∧ (nth sp j).Bits ≤ 65535 := by
 have h1 := h _ (nth_mem hj)
 have h2 := lim_le (nth sp j).Class
 unfold spanOk at h1
 rw [decide_eq_true_eq] at h1
 omega
theorem orOn_bd {sp : List DSpan} (h : ∀ s ∈ sp, spanOk s = true) {p b : Int} (hb : 0 ≤ b ∧ b ≤ 65535) : ∀ j, j ≤ sp.length → 0 ≤ orOn sp p b j ∧ orOn sp p b j ≤ 65535
 | 0, _ => hb
 | j + 1, hj => by
  have h1 := orOn_bd h (p := p) hb j (by omega)
  simp only [orOn]
  split
  ·exact bor_bd h1 (bits_bd h (by omega))
  ·exact h1
theorem orAll_bd {sp : List DSpan} (h : ∀ s ∈ sp, spanOk s = true) {ps : List Int} {b : Int} (hb : 0 ≤ b ∧ b ≤ 65535) : ∀ k, 0 ≤ orAll sp ps b k ∧ orAll sp ps b k ≤ 65535
 | 0 => hb
 | k + 1 => by simp only [orAll]; exact orOn_bd h (orAll_bd h hb k) _ (Nat.le_refl _)
theorem hasSlot_bit {b i : Int} (hb : 0 ≤ b) (hi : 0 ≤ i ∧ i ≤ 15) : hasSlot b i = b.toNat.testBit i.toNat := by
 unfold hasSlot
 rw [Nat.testBit_eq_decide_div_mod_eq]
 refine decide_eq_decide.2 ?_
 obtain ⟨n, rfl⟩ : ∃ n : Nat, b = n := ⟨b.toNat, by omega⟩
 rw [Int.toNat_natCast]
 have h1 : ((n / 2 ^ i.toNat : Nat) : Int) = (n : Int) / 2 ^ i.toNat := by simp
 omega
theorem hasSlot_or {n m i : Int} (hn : 0 ≤ n) (hm : 0 ≤ m) (hi : 0 ≤ i ∧ i ≤ 15) : hasSlot (bor n m) i = (hasSlot n i || hasSlot m i) := by
 rw [hasSlot_bit (by unfold bor; omega) hi, hasSlot_bit hn hi, hasSlot_bit hm hi]
 unfold bor
 rw [Int.toNat_natCast, Nat.testBit_or]
theorem orOn_has {sp : List DSpan} (h : ∀ s ∈ sp, spanOk s = true) {p b i : Int} (hb : 0 ≤ b ∧ b ≤ 65535) (hi : 0 ≤ i ∧ i ≤ 15) : ∀ j, j ≤ sp.length → (hasSlot (orOn sp p b j) i = true ↔ hasSlot b i = true ∨ ∃ q, q < j ∧ (nth sp q).Page = p ∧ hasSlot (nth sp q).Bits i = true)
 | 0, _ => by simp [orOn]
 | j + 1, hj => by
  have h1 := orOn_has h (p := p) hb hi j (by omega)
  have h2 := orOn_bd h (p := p) hb j (by omega)
  have h3 := bits_bd h (j := j) (by omega)
  simp only [orOn]
  split
  ·rename_i hp
   rw [hasSlot_or h2.1 h3.1 hi, Bool.or_eq_true, h1]
   constructor
   ·rintro ((e | ⟨q, e1, e2⟩) | e)
    ·exact .inl e
    ·exact .inr ⟨q, by omega, e2⟩
    ·exact .inr ⟨j, by omega, hp, e⟩
   ·rintro (e | ⟨q, e1, e2, e3⟩)
    ·exact .inl (.inl e)
    ·by_cases hq : q = j
     ·subst hq; exact .inr e3
     ·exact .inl (.inr ⟨q, by omega, e2, e3⟩)
  ·rename_i hp
   rw [h1]
   constructor
   ·rintro (e | ⟨q, e1, e2⟩)
    ·exact .inl e
    ·exact .inr ⟨q, by omega, e2⟩
   ·rintro (e | ⟨q, e1, e2, e3⟩)
    ·exact .inl e
    ·by_cases hq : q = j
     ·subst hq; exact absurd e2 hp
     ·exact .inr ⟨q, by omega, e2, e3⟩
theorem orAll_has {sp : List DSpan} (h : ∀ s ∈ sp, spanOk s = true) {ps : List Int} {b i : Int} (hb : 0 ≤ b ∧ b ≤ 65535) (hi : 0 ≤ i ∧ i ≤ 15) : ∀ k, (hasSlot (orAll sp ps b k) i = true ↔ hasSlot b i = true ∨ ∃ u, u < k ∧ ∃ q, q < sp.length ∧ (nth sp q).Page = nth ps u ∧ hasSlot (nth sp q).Bits i = true)
 | 0 => by simp [orAll]
 | k + 1 => by
  have h1 := orAll_has h (ps := ps) hb hi k
  have h2 := orAll_bd h (ps := ps) hb k
  simp only [orAll]
  rw [orOn_has h h2 hi _ (Nat.le_refl _), h1]
  constructor
  ·rintro ((e | ⟨u, e1, e2⟩) | ⟨q, e1, e2⟩)
   ·exact .inl e
   ·exact .inr ⟨u, by omega, e2⟩
   ·exact .inr ⟨k, by omega, q, e1, e2⟩
  ·rintro (e | ⟨u, e1, e2⟩)
   ·exact .inl (.inl e)
   ·by_cases hq : u = k
    ·subst hq; exact .inr e2
    ·exact .inl (.inr ⟨u, by omega, e2⟩)
/-- What the reference asks of a cell that is not clear. -/
def skipS (h : DHeap) (p c : Nat) : Bool := if 0 ≤ spanOn h (p : Nat) then hasSlot (usedBits h (spanOn h (p : Nat)).toNat) (((c : Nat) : Int) / csz (nth h.Spans (spanOn h (p : Nat)).toNat).Class) else decide ((denotes h.Spans h.Larges (16 * (p : Nat) + (c : Nat))).Kind = 3)
theorem spanOn_ix {h : DHeap} {p : Int} (h0 : 0 ≤ spanOn h p) : ∃ i, i < h.Spans.length ∧ spanOn h p = (i : Nat) ∧ (nth h.Spans i).Page = p := by
 rcases fstIx_cases (atPage p) h.Spans with e | ⟨n, hn, e, hp⟩
 ·unfold spanOn at h0; omega
 ·exact ⟨n, hn, e, by unfold atPage at hp; simpa using hp⟩
theorem slot_bd {s : DSpan} (hs : spanOk s = true) {c : Nat} (hc : c < 16) : 0 ≤ ((c : Nat) : Int) / csz s.Class ∧ ((c : Nat) : Int) / csz s.Class ≤ 15 := by
 have h1 := spanOk_class hs
 have h2 : csz s.Class = 1 ∨ csz s.Class = 2 ∨ csz s.Class = 4 ∨ csz s.Class = 8 := csz_cases (by omega)
 rcases h2 with e | e | e | e <;> rw [e] <;> omega
theorem skip_same {h : DHeap} (hh : heapS h = true) {p : Nat} (hp : p < pgN h) (hm : (nth (tbl h).Entries p).Mode ≠ 0) {c : Nat} (hc : c < 16) : skipS h p c = maySet h p c := by
 obtain ⟨k1, k2, k3, k4, -⟩ := heapS_all hh
 have hL := Lay.of k2
 obtain ⟨f1, f2, f3⟩ := pages0_facts k3
 have hpm : (p : Int) ∈ framePages h (p : Nat) := by rw [framePages_at hp hm]; exact mem_pagesOn.2 ⟨hp, hm, rfl⟩
 unfold skipS maySet
 split
 ·rename_i h0
  obtain ⟨i, hi, hix, hpg⟩ := spanOn_ix h0
  rw [hix, Int.toNat_natCast]
  have hcl : ∀ q, q < h.Spans.length → (nth h.Spans q).Page ∈ framePages h (p : Nat) → (nth h.Spans q).Class = (nth h.Spans i).Class := fun q hq hmem => by
   have h1 := List.all_eq_true.1 (allN_at k4 hi)
   rw [hpg] at h1
   have h2 := h1 _ hmem
   unfold meshAt at h2
   rw [spanOn_at hL hq] at h2
   simp only [Bool.or_eq_true, Bool.and_eq_true, decide_eq_true_eq] at h2
   rcases h2 with e | ⟨-, e⟩
   ·obtain rfl : q = i := by omega
    rfl
   ·rw [Int.toNat_natCast] at e
    unfold meshable at e
    simp only [Bool.and_eq_true, decide_eq_true_eq] at e
    exact e.2.1.symm
  have hno : (h.Larges.any fun l => largeHas l (16 * (p : Nat) + (c : Nat))) = false := by
   rw [List.any_eq_false]
   intro l hl hlh
   unfold largeHas at hlh
   simp only [Bool.and_eq_true, decide_eq_true_eq] at hlh
   have hlo := hlh.1
   unfold largeOk at hlo
   rw [decide_eq_true_eq] at hlo
   have := hL.dis _ (nth_mem hi) _ hl ((p : Int) - l.Page).toNat (by omega)
   omega
  rw [hno, Bool.or_false]
  have hsb := slot_bd (hL.sok _ (nth_mem hi)) hc
  have hbb := bits_bd hL.sok hi
  rw [Bool.eq_iff_iff]
  unfold usedBits
  rw [orAll_has hL.sok hbb hsb, hpg, List.any_eq_true]
  constructor
  ·rintro (e | ⟨u, hu, q, hq, e1, e2⟩)
   ·refine ⟨nth h.Spans i, nth_mem hi, ?_⟩
    rw [Bool.and_eq_true, decide_eq_true_eq, hpg]
    exact ⟨hpm, e⟩
   ·refine ⟨nth h.Spans q, nth_mem hq, ?_⟩
    have hmem : (nth h.Spans q).Page ∈ framePages h (p : Nat) := by rw [e1]; exact nth_mem hu
    rw [Bool.and_eq_true, decide_eq_true_eq]
    exact ⟨hmem, by unfold inSlot; rw [hcl q hq hmem]; exact e2⟩
  ·rintro ⟨s, hs, e⟩
   rw [Bool.and_eq_true, decide_eq_true_eq] at e
   obtain ⟨q, hq, rfl⟩ := mem_nth hs
   obtain ⟨u, hu, hue⟩ := mem_nth e.1
   refine .inr ⟨u, hu, q, hq, hue.symm, ?_⟩
   have := e.2
   unfold inSlot at this
   rw [hcl q hq e.1] at this
   exact this
 ·rename_i h0
  have hns : ∀ i, i < h.Spans.length → (nth h.Spans i).Page ≠ (p : Nat) := fun i hi e => h0 (by rw [← e, spanOn_at hL hi]; omega)
  have hpp := (f3 p hp).1 hm
  unfold pgs at hpp
  rw [List.mem_append, List.mem_map, List.mem_flatMap] at hpp
  rcases hpp with ⟨s, hs, hsp⟩ | ⟨l, hl, hlp⟩
  ·obtain ⟨j, hj, rfl⟩ := mem_nth hs
   exact absurd hsp (hns j hj)
  obtain ⟨i2, hi2, rfl⟩ := mem_nth hl
  obtain ⟨k, hk, hkp⟩ := mem_lpgs.1 hlp
  have h1 := f1 i2 hi2 k hk
  rw [← hkp] at h1
  obtain ⟨z, hz⟩ := List.length_eq_one_iff.1 h1
  have hsn : (h.Spans.any fun s => decide (s.Page ∈ framePages h (p : Nat)) && inSlot s c) = false := by
   rw [List.any_eq_false]
   intro s hs e
   rw [Bool.and_eq_true, decide_eq_true_eq] at e
   obtain ⟨j, hj, rfl⟩ := mem_nth hs
   have e1 := e.1
   rw [hz] at e1 hpm
   simp only [List.mem_singleton] at e1 hpm
   exact hns j hj (by omega)
  rw [hsn, Bool.false_or]
  have hnf : h.Spans.findIdx? (slotIn · (16 * (p : Nat) + (c : Nat))) = none := by
   rw [List.findIdx?_eq_none_iff]
   intro s hs
   obtain ⟨j, hj, rfl⟩ := mem_nth hs
   rw [← Bool.not_eq_true, slotIn_iff (hL.sok _ hs)]
   have := hns j hj
   omega
  unfold denotes
  rw [hnf]
  simp only
  cases e : h.Larges.findIdx? (largeHas · (16 * (p : Nat) + (c : Nat))) with
  | some i =>
   obtain ⟨hi, hpq, -⟩ := List.findIdx?_eq_some_iff_getElem.1 e
   simp only [decide_true]
   exact (List.any_eq_true.2 ⟨_, List.getElem_mem hi, hpq⟩).symm
  | none =>
   have h2 := List.findIdx?_eq_none_iff.1 e
   symm
   simp only [Int.reduceEq, decide_false]
   rw [List.any_eq_false]
   intro l hl
   rw [Bool.not_eq_true]
   exact h2 l hl
theorem clear_same {h : DHeap} (hh : heapS h = true) {p : Nat} (hp : p < pgN h) (hm : (nth (tbl h).Entries p).Mode ≠ 0) : (allN 16 fun c => skipS h p c || decide (nth (rowOf h p) c = 0)) = pageClear h p := by
 unfold pageClear
 rw [Bool.eq_iff_iff, allN_iff, allN_iff]
 refine forall_congr' fun c => ?_
 refine imp_congr_right fun hc => ?_
 rw [skip_same hh hp hm hc, Bool.or_comm]
/- the whole world -/
def refAt (h : DHeap) (r : DRefObj) : Bool := decide (0 ≤ fstIx (sameId r.Id) h.Objs) && decide (cellsOf h.Kernel (nth h.Objs (fstIx (sameId r.Id) h.Objs).toNat).Addr (nth h.Objs (fstIx (sameId r.Id) h.Objs).toNat).Size.toNat = r.Cells)
def refSame (h : DHeap) (r : DRefHeap) : Bool := (heapS h && decide (h.Next = r.Next ∧ h.Objs.length = r.Objs.length)) && allN r.Objs.length fun i => refAt h (nth r.Objs i)
def clearAt (h : DHeap) (p : Nat) : Bool := decide ((nth (tbl h).Entries p).Mode = 0) || ((h.Meshing && decide ((p : Int) = h.Job.Plan.Keep)) || pageClear h p)
def worldOk (w : DWorld) : Bool := (refSame w.Heap w.Ref && accFits (accountOf w.Heap)) && allN (pgN w.Heap) (clearAt w.Heap)
end Go.Proofs.YtjgjnlppphejpaaGreat.Ab
/- Mapped pages, a span's cells, cells in use: contracts, the reference's and the program's. No condition. -/
namespace Go.Proofs.YtjgjnlppphejpaaGreat.Ab
open Go.RowKit
set_option maxRecDepth 20000
set_option maxHeartbeats 4000000
theorem MappedPages_spec (t : DTable) (hs : DTable.sml t) : CallsA Tryz.prog 174 false [.val (some 1) (DTable.enc .imm t)] .one [I (mappedPages t)] := by
 have hl : t.Entries.length ≤ 1048576 := hs.1
 refine fO (n := 22) [] Tryz.func174 (by kernel_rfl) rfl (by kernel_rfl) (by rfl) (.inr ⟨trivial, trivial⟩) ?_
 repeat' ((conv=>whnf);first|with_reducible (first|refine Lm ?_|refine Wm (by omega) ?_|refine Bn ?_|refine Fm rfl ?_)|refine Bt ?_|refine Bu ?_)
 (conv=>whnf)
 refine Lp.mk (ι := Nat) (fun i => [(1, .hold .box (DTable.enc .imm t)), (3, .hold .one [I (sumF isMapped t.Entries i)]), (4, .hold .one [I ((i : Nat) : Int)])]) (fun i => i ≤ t.Entries.length) (fun i => t.Entries.length - i) (0) ?_ (Nat.zero_le _) fun i hi => ?_
 ·repeat' (first|exact trivial|rfl |refine And.intro ?_ ?_|(exact wkI (by first|omega|(simp only; omega)|(simp; omega))))
 have hbd := sumF_bd (f := isMapped) (xs := t.Entries) (b := 1) (fun e _ => isMapped_bd e) i hi
 by_cases li : i < t.Entries.length
 ·have hx := get_nth li
  have hst : sumF isMapped t.Entries (i + 1) = sumF isMapped t.Entries i + isMapped (nth t.Entries i) := rfl
  by_cases e : (nth t.Entries i).Mode = 0
  ·rw [show isMapped (nth t.Entries i) = 0 by unfold isMapped; rw [if_neg (by simpa using e)]] at hst
   repeat' ((conv=>whnf);first|with_reducible (first|refine Lm ?_|refine Wm (by omega) ?_|refine Ix.nat (get_map hx) ?_|refine dT (by omega) (fun hq => ?_)|refine nF (by omega) (fun hq => ?_)|refine Bn ?_|refine Fm rfl ?_)|refine Bt ?_|refine Bu ?_)
   ((conv=>whnf);refine Nx.mk (i + 1) (by omega) (by omega) ?_; (repeat' (first|exact trivial|rfl|refine And.intro ?_ ?_|(exact wkI (by first|omega|(simp only; omega)|(simp; omega))))))
  ·rw [show isMapped (nth t.Entries i) = 1 by unfold isMapped; rw [if_pos e]] at hst
   repeat' ((conv=>whnf);first|with_reducible (first|refine Lm ?_|refine Wm (by omega) ?_|refine Ix.nat (get_map hx) ?_|refine dT (by omega) (fun hq => ?_)|refine nT (by omega) (fun hq => ?_)|refine Bn ?_|refine Fm rfl ?_)|refine Bt ?_|refine Bu ?_)
   ((conv=>whnf);refine Nx.mk (i + 1) (by omega) (by omega) ?_; (repeat' (first|exact trivial|rfl|refine And.intro ?_ ?_|(exact wkI (by first|omega|(simp only; omega)|(simp; omega))))))
 ·obtain rfl : i = t.Entries.length := by omega
  repeat' ((conv=>whnf);first|with_reducible (first|refine Lm ?_|refine Wm (by omega) ?_|refine dF (by omega) (fun hq => ?_)|refine Bn ?_|refine Fm rfl ?_)|refine Bt ?_|refine Bu ?_)
  rfl
theorem MappedPages_impl (t : DTable) (hs : DTable.sml t) : CallsA Tryz.prog 197 false [.val (some 1) (DTable.enc .imm t)] .one [I (mappedPages t)] := by
 have hl : t.Entries.length ≤ 1048576 := hs.1
 refine fO (n := 20) [] Tryz.func197 (by kernel_rfl) rfl (by kernel_rfl) (by rfl) (.inr ⟨trivial, trivial⟩) ?_
 repeat' ((conv=>whnf);first|with_reducible (first|refine Lm ?_|refine Wm (by omega) ?_|refine Bn ?_|refine Fm rfl ?_)|refine Bt ?_|refine Bu ?_)
 (conv=>whnf)
 refine Lp.mk (ι := Nat) (fun i => [(3, .hold .one [I (sumF isMapped t.Entries i)]), (7, .hold .one (rDEntryS .imm t.Entries)), (8, .hold .one [I (t.Entries.length)]), (9, .hold .one [I ((i : Nat) : Int)])]) (fun i => i ≤ t.Entries.length) (fun i => t.Entries.length - i) (0) ?_ (Nat.zero_le _) fun i hi => ?_
 ·repeat' (first|exact trivial|rfl |refine And.intro ?_ ?_|(exact wkI (by first|omega|(simp only; omega)|(simp; omega))))
 have hbd := sumF_bd (f := isMapped) (xs := t.Entries) (b := 1) (fun e _ => isMapped_bd e) i hi
 by_cases li : i < t.Entries.length
 ·have hx := get_nth li
  have hst : sumF isMapped t.Entries (i + 1) = sumF isMapped t.Entries i + isMapped (nth t.Entries i) := rfl
  by_cases e : (nth t.Entries i).Mode = 0
  ·rw [show isMapped (nth t.Entries i) = 0 by unfold isMapped; rw [if_neg (by simpa using e)]] at hst
   repeat' ((conv=>whnf);first|with_reducible (first|refine Lm ?_|refine Wm (by omega) ?_|refine Ix.nat (get_map hx) ?_|refine dT (by omega) (fun hq => ?_)|refine nF (by omega) (fun hq => ?_)|refine Bn ?_|refine Fm rfl ?_)|refine Bt ?_|refine Bu ?_)
   ((conv=>whnf);refine Nx.mk (i + 1) (by omega) (by omega) ?_; (repeat' (first|exact trivial|rfl|refine And.intro ?_ ?_|(exact wkI (by first|omega|(simp only; omega)|(simp; omega))))))
  ·rw [show isMapped (nth t.Entries i) = 1 by unfold isMapped; rw [if_pos e]] at hst
   repeat' ((conv=>whnf);first|with_reducible (first|refine Lm ?_|refine Wm (by omega) ?_|refine Ix.nat (get_map hx) ?_|refine dT (by omega) (fun hq => ?_)|refine nT (by omega) (fun hq => ?_)|refine Bn ?_|refine Fm rfl ?_)|refine Bt ?_|refine Bu ?_)
   ((conv=>whnf);refine Nx.mk (i + 1) (by omega) (by omega) ?_; (repeat' (first|exact trivial|rfl|refine And.intro ?_ ?_|(exact wkI (by first|omega|(simp only; omega)|(simp; omega))))))
 ·obtain rfl : i = t.Entries.length := by omega
  repeat' ((conv=>whnf);first|with_reducible (first|refine Lm ?_|refine Wm (by omega) ?_|refine dF (by omega) (fun hq => ?_)|refine Bn ?_|refine Fm rfl ?_)|refine Bt ?_|refine Bu ?_)
  rfl
theorem SpanCells_spec (s : DSpan) (hs : spanOk s = true) : CallsA Tryz.prog 261 false [.val (some 3) (DSpan.enc .imm s)] .one (rIntS .own (scN s 16)) := by
 have hk := SpanOk_spec s
 rw [hs] at hk
 have hc := spanOk_class hs
 have hz := csz_cases hc.2.2
 refine fO (n := 27) [(5,7,[14,15,16,17,18,19,20])] Tryz.func261 (by kernel_rfl) rfl (by kernel_rfl) (by rfl) (.inr (rIntS_fr _)) ?_
 repeat' ((conv=>whnf);first|with_reducible (first|refine Lm ?_|refine Wm (by omega) ?_|refine Bn ?_|refine Fm rfl ?_)|refine Bt ?_|refine Bu ?_)
 (conv=>whnf)
 refine Lp.mk (ι := Nat) (fun i => [(1, .hold .box (DSpan.enc .imm s)), (3, .hold .one (rIntS .own (scN s i))), (4, .hold .one [I ((i : Nat) : Int)])]) (fun i => i ≤ 16) (fun i => 16 - i) (0) ?_ (Nat.zero_le _) fun i hi => ?_
 ·repeat' (first|exact trivial|rfl |refine And.intro ?_ ?_|(exact wkI (by first|omega|(simp only; omega)|(simp; omega))))
 have hle := scN_len s i
 by_cases li : i < 16
 ·have hsl := slot_bd hs li
  have q1 : IntKind.i64.wrap (((i : Nat) : Int).tdiv (csz s.Class)) = ((i : Nat) : Int) / csz s.Class := by rw [tdiv_pos (by omega)]; exact wrapI (by omega) (by omega)
  have h2 := HasSlot_spec s.Bits (((i : Nat) : Int) / csz s.Class) (spanOk_bits hs).2
  cases e : inSlot s i
  ·rw [show hasSlot s.Bits (((i : Nat) : Int) / csz s.Class) = false from e] at h2
   repeat' ((conv=>whnf);first|with_reducible (first|refine Lm ?_|refine Wm (by omega) ?_|refine dT (by omega) (fun hq => ?_)|refine Bn ?_|refine Fm rfl ?_)|refine Bt ?_|refine Bu ?_|refine Cl.mk (hk) ?_|refine Cl.mk (ClassSize_spec _) ?_|refine Cd.mk (by omega) ?_|refine Wr.mk q1 ?_|refine Cl.mk (h2) ?_)
   ((conv=>whnf);refine Nx.mk (i + 1) (by omega) (by omega) ?_)
   rw [scN_no e]
   repeat' (first|exact trivial|rfl|refine And.intro ?_ ?_|(exact wkI (by first|omega|(simp only; omega)|(simp; omega))))
  ·rw [show hasSlot s.Bits (((i : Nat) : Int) / csz s.Class) = true from e] at h2
   repeat' ((conv=>whnf);first|with_reducible (first|refine Lm ?_|refine Wm (by omega) ?_|refine dT (by omega) (fun hq => ?_)|refine Bn ?_|refine Fm rfl ?_)|refine Bt ?_|refine Bu ?_|refine Cl.mk (hk) ?_|refine Cl.mk (ClassSize_spec _) ?_|refine Cd.mk (by omega) ?_|refine Wr.mk q1 ?_|refine Cl.mk (h2) ?_|refine Ap.mk rowI_one (fun r hr => by rw [List.mem_singleton.1 hr]; rfl) (by simp [noOwn, isOwn]) (by simp; omega) (by simp only [List.length_map]; exact mkB (by simp; omega) (by decide)) rfl ?_)
   ((conv=>whnf);refine Nx.mk (i + 1) (by omega) (by omega) ?_)
   rw [scN_yes e]
   (repeat' (first|exact trivial|rfl|exact And.intro rfl (And.intro (congrArg (C.s Own.own) (by simp [rI])) trivial)|refine And.intro ?_ ?_))
 ·obtain rfl : i = 16 := by omega
  repeat' ((conv=>whnf);first|with_reducible (first|refine Lm ?_|refine Wm (by omega) ?_|refine dF (by omega) (fun hq => ?_)|refine Bn ?_|refine Fm rfl ?_)|refine Bt ?_|refine Bu ?_|refine Cl.mk (hk) ?_)
  rfl
theorem SpanCells_impl (s : DSpan) (hs : spanOk s = true) : CallsA Tryz.prog 279 false [.val (some 3) (DSpan.enc .imm s)] .one (rIntS .own (scN s 16)) := by
 have hk := SpanOk_impl s
 rw [hs] at hk
 have hc := spanOk_class hs
 have hz := csz_cases hc.2.2
 refine fO (n := 26) [(7,7,[13,14,15,16,17,18,19])] Tryz.func279 (by kernel_rfl) rfl (by kernel_rfl) (by rfl) (.inr (rIntS_fr _)) ?_
 repeat' ((conv=>whnf);first|with_reducible (first|refine Lm ?_|refine Wm (by omega) ?_|refine Bn ?_|refine Fm rfl ?_)|refine Bt ?_|refine Bu ?_|refine Cl.mk (hk) ?_)
 (conv=>whnf)
 refine Lp.mk (ι := Nat) (fun i => [(1, .hold .box (DSpan.enc .imm s)), (3, .hold .one (rIntS .own (scN s i))), (4, .hold .one [I ((i : Nat) : Int)])]) (fun i => i ≤ 16) (fun i => 16 - i) (0) ?_ (Nat.zero_le _) fun i hi => ?_
 ·repeat' (first|exact trivial|rfl |refine And.intro ?_ ?_|(exact wkI (by first|omega|(simp only; omega)|(simp; omega))))
 have hle := scN_len s i
 by_cases li : i < 16
 ·have hsl := slot_bd hs li
  have q1 : IntKind.i64.wrap (((i : Nat) : Int).tdiv (csz s.Class)) = ((i : Nat) : Int) / csz s.Class := by rw [tdiv_pos (by omega)]; exact wrapI (by omega) (by omega)
  have h2 := HasSlot_impl s.Bits (((i : Nat) : Int) / csz s.Class) (spanOk_bits hs).2
  cases e : inSlot s i
  ·rw [show hasSlot s.Bits (((i : Nat) : Int) / csz s.Class) = false from e] at h2
   repeat' ((conv=>whnf);first|with_reducible (first|refine Lm ?_|refine Wm (by omega) ?_|refine dT (by omega) (fun hq => ?_)|refine Bn ?_|refine Fm rfl ?_)|refine Bt ?_|refine Bu ?_|refine Cl.mk (ClassSize_impl _) ?_|refine Cd.mk (by omega) ?_|refine Wr.mk q1 ?_|refine Cl.mk (h2) ?_)
   ((conv=>whnf);refine Nx.mk (i + 1) (by omega) (by omega) ?_)
   rw [scN_no e]
   repeat' (first|exact trivial|rfl|refine And.intro ?_ ?_|(exact wkI (by first|omega|(simp only; omega)|(simp; omega))))
  ·rw [show hasSlot s.Bits (((i : Nat) : Int) / csz s.Class) = true from e] at h2
   repeat' ((conv=>whnf);first|with_reducible (first|refine Lm ?_|refine Wm (by omega) ?_|refine dT (by omega) (fun hq => ?_)|refine Bn ?_|refine Fm rfl ?_)|refine Bt ?_|refine Bu ?_|refine Cl.mk (ClassSize_impl _) ?_|refine Cd.mk (by omega) ?_|refine Wr.mk q1 ?_|refine Cl.mk (h2) ?_|refine Ap.mk rowI_one (fun r hr => by rw [List.mem_singleton.1 hr]; rfl) (by simp [noOwn, isOwn]) (by simp; omega) (by simp only [List.length_map]; exact mkB (by simp; omega) (by decide)) rfl ?_)
   ((conv=>whnf);refine Nx.mk (i + 1) (by omega) (by omega) ?_)
   rw [scN_yes e]
   (repeat' (first|exact trivial|rfl|exact And.intro rfl (And.intro (congrArg (C.s Own.own) (by simp [rI])) trivial)|refine And.intro ?_ ?_))
 ·obtain rfl : i = 16 := by omega
  repeat' ((conv=>whnf);first|with_reducible (first|refine Lm ?_|refine Wm (by omega) ?_|refine dF (by omega) (fun hq => ?_)|refine Bn ?_|refine Fm rfl ?_)|refine Bt ?_|refine Bu ?_)
  rfl
theorem LiveCells_spec (sp : List DSpan) (la : List DLarge) (hs1 : smlDSpanS sp) (hs2 : smlDLargeS la) (hlay : layoutOk sp la = true) : CallsA Tryz.prog 175 false [.val none (rDSpanS .imm sp), .val none (rDLargeS .imm la)] .one [I (liveCells sp la)] := by
 have hl1 := hs1.1
 have hl2 := hs2.1
 have h0 := LayoutOk_spec sp la hs1 hs2
 rw [hlay] at h0
 have hL := Lay.of hlay
 have hsz := size_bd (layoutOk_facts hlay).2.1
 refine fO (n := 40) [] Tryz.func175 (by kernel_rfl) rfl (by kernel_rfl) (by rfl) (.inr ⟨trivial, trivial⟩) ?_
 repeat' ((conv=>whnf);first|with_reducible (first|refine Lm ?_|refine Wm (by omega) ?_|refine Bn ?_|refine Fm rfl ?_)|refine Bt ?_|refine Bu ?_|refine Cl.mk (h0) ?_)
 (conv=>whnf)
 refine Lp.mk (ι := Nat) (fun i => [(0, .hold .one (rDSpanS .imm sp)), (1, .hold .one (rDLargeS .imm la)), (5, .hold .one [I (sumF scL sp i)]), (6, .hold .one [I ((i : Nat) : Int)])]) (fun i => i ≤ sp.length) (fun i => sp.length - i) (0) ?_ (Nat.zero_le _) fun i hi => ?_
 ·repeat' (first|exact trivial|rfl |refine And.intro ?_ ?_|(exact wkI (by first|omega|(simp only; omega)|(simp; omega))))
 have hb1 := sumF_bd (f := scL) (xs := sp) (b := 16) (fun s _ => scL_bd s) i hi
 by_cases li : i < sp.length
 ·have hx := get_nth li
  have hst : sumF scL sp (i + 1) = sumF scL sp i + ((scN (nth sp i) 16).length : Nat) := rfl
  have hle := scN_len (nth sp i) 16
  repeat' ((conv=>whnf);first|with_reducible (first|refine Lm ?_|refine Wm (by omega) ?_|refine Ix.nat (get_map hx) ?_|refine dT (by omega) (fun hq => ?_)|refine Bn ?_|refine Fm rfl ?_)|refine Bt ?_|refine Bu ?_|refine Cl.mk (SpanCells_spec (nth sp i) (hL.sok _ (nth_mem li))) ?_)
  ((conv=>whnf);refine Nx.mk (i + 1) (by omega) (by omega) ?_; (repeat' (first|exact trivial|rfl|refine And.intro ?_ ?_|(exact wkI (by first|omega|(simp only; omega)|(simp; omega))))))
 ·obtain rfl : i = sp.length := by omega
  have hz0 : sumF (·.Size) la 0 = 0 := rfl
  repeat' ((conv=>whnf);first|with_reducible (first|refine Lm ?_|refine Wm (by omega) ?_|refine dF (by omega) (fun hq => ?_)|refine Bn ?_|refine Fm rfl ?_)|refine Bt ?_|refine Bu ?_)
  (conv=>whnf)
  refine Lp.mk (ι := Nat) (fun k => [(1, .hold .one (rDLargeS .imm la)), (5, .hold .one [I (sumF scL sp sp.length + sumF (·.Size) la k)]), (7, .hold .one [I ((k : Nat) : Int)])]) (fun k => k ≤ la.length) (fun k => la.length - k) (0) ?_ (Nat.zero_le _) fun k hk => ?_
  ·repeat' (first|exact trivial|rfl |refine And.intro ?_ ?_|(exact wkI (by first|omega|(simp only; omega)|(simp; omega))))
  have hb2 := sumF_bd (f := (·.Size)) (xs := la) (b := 1000) hsz k hk
  by_cases lk : k < la.length
  ·have hx := get_nth lk
   have hb3 := hsz _ (nth_mem lk)
   have hst : sumF (·.Size) la (k + 1) = sumF (·.Size) la k + (nth la k).Size := rfl
   repeat' ((conv=>whnf);first|with_reducible (first|refine Lm ?_|refine Wm (by omega) ?_|refine Ix.nat (get_map hx) ?_|refine dT (by omega) (fun hq => ?_)|refine Bn ?_|refine Fm rfl ?_)|refine Bt ?_|refine Bu ?_)
   ((conv=>whnf);refine Nx.mk (k + 1) (by omega) (by omega) ?_; (repeat' (first|exact trivial|rfl|refine And.intro ?_ ?_|(exact wkI (by first|omega|(simp only; omega)|(simp; omega))))))
  ·obtain rfl : k = la.length := by omega
   repeat' ((conv=>whnf);first|with_reducible (first|refine Lm ?_|refine Wm (by omega) ?_|refine dF (by omega) (fun hq => ?_)|refine Bn ?_|refine Fm rfl ?_)|refine Bt ?_|refine Bu ?_)
   rfl
theorem LiveCells_impl (sp : List DSpan) (la : List DLarge) (hs1 : smlDSpanS sp) (hs2 : smlDLargeS la) (hlay : layoutOk sp la = true) : CallsA Tryz.prog 198 false [.val none (rDSpanS .imm sp), .val none (rDLargeS .imm la)] .one [I (liveCells sp la)] := by
 have hl1 := hs1.1
 have hl2 := hs2.1
 have h0 := LayoutOk_impl sp la hs1 hs2
 rw [hlay] at h0
 have hL := Lay.of hlay
 have hsz := size_bd (layoutOk_facts hlay).2.1
 refine fO (n := 38) [] Tryz.func198 (by kernel_rfl) rfl (by kernel_rfl) (by rfl) (.inr ⟨trivial, trivial⟩) ?_
 repeat' ((conv=>whnf);first|with_reducible (first|refine Lm ?_|refine Wm (by omega) ?_|refine Bn ?_|refine Fm rfl ?_)|refine Bt ?_|refine Bu ?_|refine Cl.mk (h0) ?_)
 (conv=>whnf)
 refine Lp.mk (ι := Nat) (fun i => [(1, .hold .one (rDLargeS .imm la)), (5, .hold .one [I (sumF scL sp i)]), (14, .hold .one (rDSpanS .imm sp)), (15, .hold .one [I (sp.length)]), (16, .hold .one [I ((i : Nat) : Int)])]) (fun i => i ≤ sp.length) (fun i => sp.length - i) (0) ?_ (Nat.zero_le _) fun i hi => ?_
 ·repeat' (first|exact trivial|rfl |refine And.intro ?_ ?_|(exact wkI (by first|omega|(simp only; omega)|(simp; omega))))
 have hb1 := sumF_bd (f := scL) (xs := sp) (b := 16) (fun s _ => scL_bd s) i hi
 by_cases li : i < sp.length
 ·have hx := get_nth li
  have hst : sumF scL sp (i + 1) = sumF scL sp i + ((scN (nth sp i) 16).length : Nat) := rfl
  have hle := scN_len (nth sp i) 16
  repeat' ((conv=>whnf);first|with_reducible (first|refine Lm ?_|refine Wm (by omega) ?_|refine Ix.nat (get_map hx) ?_|refine dT (by omega) (fun hq => ?_)|refine Bn ?_|refine Fm rfl ?_)|refine Bt ?_|refine Bu ?_|refine Cl.mk (SpanCells_impl (nth sp i) (hL.sok _ (nth_mem li))) ?_)
  ((conv=>whnf);refine Nx.mk (i + 1) (by omega) (by omega) ?_; (repeat' (first|exact trivial|rfl|refine And.intro ?_ ?_|(exact wkI (by first|omega|(simp only; omega)|(simp; omega))))))
 ·obtain rfl : i = sp.length := by omega
  have hz0 : sumF (·.Size) la 0 = 0 := rfl
  repeat' ((conv=>whnf);first|with_reducible (first|refine Lm ?_|refine Wm (by omega) ?_|refine dF (by omega) (fun hq => ?_)|refine Bn ?_|refine Fm rfl ?_)|refine Bt ?_|refine Bu ?_)
  (conv=>whnf)
  refine Lp.mk (ι := Nat) (fun k => [(5, .hold .one [I (sumF scL sp sp.length + sumF (·.Size) la k)]), (26, .hold .one (rDLargeS .imm la)), (27, .hold .one [I (la.length)]), (28, .hold .one [I ((k : Nat) : Int)])]) (fun k => k ≤ la.length) (fun k => la.length - k) (0) ?_ (Nat.zero_le _) fun k hk => ?_
  ·repeat' (first|exact trivial|rfl |refine And.intro ?_ ?_|(exact wkI (by first|omega|(simp only; omega)|(simp; omega))))
  have hb2 := sumF_bd (f := (·.Size)) (xs := la) (b := 1000) hsz k hk
  by_cases lk : k < la.length
  ·have hx := get_nth lk
   have hb3 := hsz _ (nth_mem lk)
   have hst : sumF (·.Size) la (k + 1) = sumF (·.Size) la k + (nth la k).Size := rfl
   repeat' ((conv=>whnf);first|with_reducible (first|refine Lm ?_|refine Wm (by omega) ?_|refine Ix.nat (get_map hx) ?_|refine dT (by omega) (fun hq => ?_)|refine Bn ?_|refine Fm rfl ?_)|refine Bt ?_|refine Bu ?_)
   ((conv=>whnf);refine Nx.mk (k + 1) (by omega) (by omega) ?_; (repeat' (first|exact trivial|rfl|refine And.intro ?_ ?_|(exact wkI (by first|omega|(simp only; omega)|(simp; omega))))))
  ·obtain rfl : k = la.length := by omega
   repeat' ((conv=>whnf);first|with_reducible (first|refine Lm ?_|refine Wm (by omega) ?_|refine dF (by omega) (fun hq => ?_)|refine Bn ?_|refine Fm rfl ?_)|refine Bt ?_|refine Bu ?_)
   rfl
theorem pagesOf_impl (h : DHeap) : CallsA Tryz.prog 196 false [.val (some 24) (DHeap.enc .imm h)] .one [I (pgN h : Nat)] := by
 refine fO (n := 9) [] Tryz.func196 (by kernel_rfl) rfl (by kernel_rfl) (by rfl) (.inr ⟨trivial, trivial⟩) ?_
 repeat' ((conv=>whnf);first|with_reducible (first|refine Lm ?_|refine Wm (by omega) ?_|refine Bn ?_|refine Fm rfl ?_)|refine Bt ?_|refine Bu ?_)
 rfl
end Go.Proofs.YtjgjnlppphejpaaGreat.Ab
/- Rows of facts: cells, bulk, marks. Printed by gen_data.py. No condition. -/
namespace Go.Proofs.YtjgjnlppphejpaaGreat.Ab
open Go.RowKit
/- []DFact -/
end Go.Proofs.YtjgjnlppphejpaaGreat.Ab
/- The facts of a heap: the reference's function. No condition. -/
namespace Go.Proofs.YtjgjnlppphejpaaGreat.Ab
open Go.RowKit
set_option maxRecDepth 20000
set_option maxHeartbeats 4000000
theorem Ap.sl {rows rs : List (List C)} {r : List C} {sz by_ : Nat} {K : List (List C) → Prop} (h1 : ∀ r ∈ rows, r.length = sz) (h2 : r.length = sz) (hl : rows.length + 1 ≤ 1073741824) (hb : by_ ≤ 1000) (hr : rs = rows ++ [r]) (hK : K rs) : Ap false rows [r] sz by_ K :=
 Ap.mk h1 (fun r' hr => by rw [List.mem_singleton.1 hr]; exact h2) (fun h => by cases h) (by simp; omega) (by
   have h1 : (rows.length + [r].length) * by_ ≤ 1073741824 * 1000 := Nat.mul_le_mul (by simpa using hl) hb
   omega) hr hK
theorem sum_step {v k : Int} (hv : 0 ≤ v ∧ v ≤ 999) (hk : 0 ≤ k ∧ k ≤ 1000) : 0 ≤ k * v ∧ k * v ≤ 1000000 := by
 have h1 : 0 ≤ k * v := Int.mul_nonneg hk.1 hv.1
 have h2 : k * v ≤ 1000 * 999 := Int.mul_le_mul hk.2 hv.2 hv.1 (by decide)
 omega
mutual
theorem fz_fz : ∀ c : C, fz (fz c) = fz c
 | .v x => by simp [fz]
 | .s o rows => by simp only [fz]; rw [fzR_fzR rows]
 | .x => by simp [fz]
 | .z => by simp [fz]
 | .m _ => by simp [fz]
 | .it _ _ => by simp [fz]
theorem fzR_fzR : ∀ rs : List (List C), fzR (fzR rs) = fzR rs
 | [] => rfl
 | r :: rs => by simp only [fzR]; rw [fzL_fzL r, fzR_fzR rs]
theorem fzL_fzL : ∀ cs : List C, fzL (fzL cs) = fzL cs
 | [] => rfl
 | c :: cs => by simp only [fzL]; rw [fz_fz c, fzL_fzL cs]
end
theorem DHeap.enc_fzi (h : DHeap) : fzL (DHeap.enc .imm h) = DHeap.enc .imm h := by rw [← DHeap.enc_fz h, fzL_fzL]
end Go.Proofs.YtjgjnlppphejpaaGreat.Ab
/- Whether a heap holds the objects of the reference's list: contracts, the reference's and the program's. No condition. -/
namespace Go.Proofs.YtjgjnlppphejpaaGreat.Ab
open Go.RowKit
set_option maxRecDepth 20000
set_option maxHeartbeats 4000000
theorem ix_iff {h : DHeap} (hh : heapS h = true) {z : Int} {k : Nat} (hk : k < h.Objs.length) : (nth h.Objs k).Id = z ↔ fstIx (sameId z) h.Objs = (k : Nat) := by
 constructor
 ·rintro rfl
  refine fstIx_yes (get_nth hk) (by unfold sameId; simp) fun j y hj hy => ?_
  have hjl := (List.getElem?_eq_some_iff.1 hy).1
  have := obj_ne hh hjl hk (by omega)
  rw [nth_of hy] at this
  unfold sameId
  exact decide_eq_false this
 ·intro e
  rcases fstIx_cases (sameId z) h.Objs with e1 | ⟨n, hn, e1, hp⟩
  ·omega
  ·obtain rfl : n = k := by omega
   unfold sameId at hp
   simpa using hp
theorem ix_cases (h : DHeap) (z : Int) : fstIx (sameId z) h.Objs = -1 ∨ ∃ n : Nat, n < h.Objs.length ∧ fstIx (sameId z) h.Objs = (n : Nat) := by
 rcases fstIx_cases (sameId z) h.Objs with e1 | ⟨n, hn, e1, -⟩
 ·exact .inl e1
 ·exact .inr ⟨n, hn, e1⟩
theorem obj_cells {h : DHeap} (hh : heapS h = true) {i : Nat} (hi : i < h.Objs.length) : 0 ≤ (nth h.Objs i).Addr ∧ (nth h.Objs i).Addr ≤ 2000 ∧ 1 ≤ (nth h.Objs i).Size ∧ (nth h.Objs i).Size ≤ 1000 := by
 obtain ⟨b1, b2, b3, b4, b5, b6, -⟩ := obj_bd hh hi
 exact ⟨b3, b4, b5, b6⟩
def objCells (h : DHeap) (k : Nat) : List Int := cellsOf h.Kernel (nth h.Objs k).Addr (nth h.Objs k).Size.toNat
theorem objCells_len {h : DHeap} (hh : heapS h = true) {k : Nat} (hk : k < h.Objs.length) : (objCells h k).length ≤ 1000 := by
 have := obj_cells hh hk
 unfold objCells
 rw [cellsOf_len]
 omega
theorem refAt_no {h : DHeap} {r : DRefObj} (e : fstIx (sameId r.Id) h.Objs = -1) : refAt h r = false := by unfold refAt; rw [e]; rfl
theorem refAt_at {h : DHeap} {r : DRefObj} {n : Nat} (e : fstIx (sameId r.Id) h.Objs = (n : Nat)) : refAt h r = decide (objCells h n = r.Cells) := by
 unfold refAt objCells; rw [e, Int.toNat_natCast, decide_eq_true (show (0 : Int) ≤ (n : Nat) by omega)]; rfl
theorem sameId_fn2 (o : DObj) (z : Int) : CallsA Tryz.prog 268 false [.val (some 4) (DObj.enc .imm o), .ptr [I z]] .one [B (sameId z o)] := by
 refine fO (n := 8) [] Tryz.func268 (by kernel_rfl) rfl (by kernel_rfl) (by rfl) (.inr ⟨trivial, trivial⟩) ?_
 repeat' ((conv=>whnf);first|with_reducible (first|refine Lm ?_|refine Wm (by omega) ?_|refine Bn ?_|refine Fm rfl ?_)|refine Bt ?_|refine Bu ?_)
 exact congrArg (fun z => [B z]) ((by unfold sameId; rw [Bool.eq_iff_iff]; simp))
theorem Contents_at (h : DHeap) (z : Int) (n : Nat) (hs : DHeap.sml h) (hh : heapS h = true) (hn : n < h.Objs.length) (hz : fstIx (sameId z) h.Objs = (n : Nat)) : CallsA Tryz.prog 186 false [.val (some 24) (DHeap.enc .imm h), .val none [I z]] (.tup [none, none]) [.s .own ((objCells h n).map (rI .own)), B true] := by
 have c1 := HeapOk_impl h hs
 rw [heap_same, hh] at c1
 have hlo : h.Objs.length ≤ 1048576 := hs.2.2.2.2.1.1
 have hb := obj_cells hh hn
 have c2 := cellsAt_impl h (nth h.Objs n).Addr (nth h.Objs n).Size (heapS_kernel hh) (by omega) (by omega)
 have hx := get_nth hn
 have c3 := IndexFunc_Obj h.Objs (sameId z) (by omega)
 rw [hz] at c3
 refine fO (n := 32) [(4,13,[18,19,20,21,22,23,24,25,26,27,28,29,30])] Tryz.func186 (by kernel_rfl) rfl (by kernel_rfl) (by rfl) (.inr ⟨⟨.inl fun h => (by cases h), frR_map _ _ fun y _ => rI_fr y⟩, trivial, trivial⟩) ?_
 repeat' ((conv=>whnf);first|with_reducible (first|refine Lm ?_|refine Wm (by omega) ?_|refine dF (by omega) (fun hq => ?_)|refine Ix.nat (get_map hx) ?_|refine Bn ?_|refine Fm rfl ?_)|refine Bt ?_|refine Bu ?_|refine Cq.mk (prQ (some 4) (DObj.enc .imm) (sameId z) h.Objs) (sameId_fn2 default z).has (fun L k rcs hQ => ?_) ?_|refine Cl.mk (c3) ?_|refine Cl.mk (c1) ?_|refine Cl.mk (c2) ?_)
 ·obtain ⟨y, -, rfl, rfl, rfl⟩ := hQ
  exact sameId_fn2 y z
 ·rfl
theorem Contents_no (h : DHeap) (z : Int) (hs : DHeap.sml h) (hz : fstIx (sameId z) h.Objs = -1) : CallsA Tryz.prog 186 false [.val (some 24) (DHeap.enc .imm h), .val none [I z]] (.tup [none, none]) [.s .own [], B false] := by
 have hlo : h.Objs.length ≤ 1048576 := hs.2.2.2.2.1.1
 have c3 := IndexFunc_Obj h.Objs (sameId z) (by omega)
 rw [hz] at c3
 refine fO (n := 32) [(4,13,[18,19,20,21,22,23,24,25,26,27,28,29,30])] Tryz.func186 (by kernel_rfl) rfl (by kernel_rfl) (by rfl) (.inr ⟨⟨.inl fun h => (by cases h), trivial⟩, trivial, trivial⟩) ?_
 repeat' ((conv=>whnf);first|with_reducible (first|refine Lm ?_|refine Wm (by omega) ?_|refine dT (by omega) (fun hq => ?_)|refine Bn ?_|refine Fin_.wk rfl ?_)|refine Bt ?_|refine Bu ?_|refine Cq.mk (prQ (some 4) (DObj.enc .imm) (sameId z) h.Objs) (sameId_fn2 default z).has (fun L k rcs hQ => ?_) ?_|refine Cl.mk (c3) ?_)
 ·obtain ⟨y, -, rfl, rfl, rfl⟩ := hQ
  exact sameId_fn2 y z
 ·exact ⟨rfl, rfl, trivial⟩
theorem refSame_end {h : DHeap} {r : DRefHeap} (hh : heapS h = true) (h1 : h.Next = r.Next) (h2 : h.Objs.length = r.Objs.length) : refSame h r = allN r.Objs.length fun i => refAt h (nth r.Objs i) := by
 unfold refSame; rw [hh, decide_eq_true ⟨h1, h2⟩]; rfl
theorem RefSame_impl (h : DHeap) (r : DRefHeap) (hs : DHeap.sml h) (hr : DRefHeap.sml r) : CallsA Tryz.prog 84 false [.val (some 24) (DHeap.enc .imm h), .val (some 2) (DRefHeap.enc .imm r)] .one [B (refSame h r)] := by
 have c1 := HeapOk_impl h hs
 rw [heap_same] at c1
 have hlo : h.Objs.length ≤ 1048576 := hs.2.2.2.2.1.1
 have hlr : r.Objs.length ≤ 1048576 := hr.1
 cases e1 : heapS h <;> rw [e1] at c1
 ·refine fO (n := 52) [] Tryz.func84 (by kernel_rfl) rfl (by kernel_rfl) (by rfl) (.inr ⟨trivial, trivial⟩) ?_
  repeat' ((conv=>whnf);first|with_reducible (first|refine Lm ?_|refine Wm (by omega) ?_|refine Bn ?_|refine Fm rfl ?_)|refine Bt ?_|refine Bu ?_|refine Cl.mk (c1) ?_)
  exact congrArg (fun z => [B z]) ((by unfold refSame; rw [e1]; rfl))
 by_cases e2 : h.Next = r.Next
 case neg =>
  refine fO (n := 52) [] Tryz.func84 (by kernel_rfl) rfl (by kernel_rfl) (by rfl) (.inr ⟨trivial, trivial⟩) ?_
  repeat' ((conv=>whnf);first|with_reducible (first|refine Lm ?_|refine Wm (by omega) ?_|refine nT (by omega) (fun hq => ?_)|refine Bn ?_|refine Fm rfl ?_)|refine Bt ?_|refine Bu ?_|refine Cl.mk (c1) ?_)
  exact congrArg (fun z => [B z]) ((by unfold refSame; rw [decide_eq_false fun h => e2 h.1]; simp))
 by_cases e3 : h.Objs.length = r.Objs.length
 case neg =>
  refine fO (n := 52) [] Tryz.func84 (by kernel_rfl) rfl (by kernel_rfl) (by rfl) (.inr ⟨trivial, trivial⟩) ?_
  repeat' ((conv=>whnf);first|with_reducible (first|refine Lm ?_|refine Wm (by omega) ?_|refine nT (by omega) (fun hq => ?_)|refine nF (by omega) (fun hq => ?_)|refine Bn ?_|refine Fm rfl ?_)|refine Bt ?_|refine Bu ?_|refine Cl.mk (c1) ?_)
  exact congrArg (fun z => [B z]) ((by unfold refSame; rw [decide_eq_false fun h => e3 h.2]; simp))
 rw [refSame_end e1 e2 e3]
 refine fO (n := 52) [] Tryz.func84 (by kernel_rfl) rfl (by kernel_rfl) (by rfl) (.inr ⟨trivial, trivial⟩) ?_
 repeat' ((conv=>whnf);first|with_reducible (first|refine Lm ?_|refine Wm (by omega) ?_|refine nF (by omega) (fun hq => ?_)|refine Bn ?_|refine Fm rfl ?_)|refine Bt ?_|refine Bu ?_|refine Cl.mk (c1) ?_)
 (conv=>whnf)
 refine Lp.mk (ι := Nat) (fun i => [(2, .hold .box (DHeap.enc .imm h)), (29, .hold .one (rDRefObjS .imm r.Objs)), (30, .hold .one [I (r.Objs.length)]), (31, .hold .one [I ((i : Nat) : Int)])]) (fun i => i ≤ r.Objs.length ∧ allN i (fun i => refAt h (nth r.Objs i)) = true) (fun i => r.Objs.length - i) 0 ?_ ⟨Nat.zero_le _, rfl⟩ fun i hi => ?_
 ·repeat' (first|exact trivial|rfl|refine And.intro ?_ ?_|(exact wkI (by first|omega|(simp only; omega)|(simp; omega))))
 obtain ⟨hi, ai⟩ := hi
 by_cases li : i < r.Objs.length
 ·have hx := get_nth li
  rcases ix_cases h (nth r.Objs i).Id with e | ⟨n, hn, e⟩
  ·have hno := refAt_no (r := nth r.Objs i) e
   repeat' ((conv=>whnf);first|with_reducible (first|refine Lm ?_|refine Wm (by omega) ?_|refine Ix.nat (get_map hx) ?_|refine dT (by omega) (fun hq => ?_)|refine Bn ?_|refine Fm rfl ?_)|refine Bt ?_|refine Bu ?_|refine Cl.mk (Contents_no h (nth r.Objs i).Id hs e) ?_)
   exact congrArg (fun z => [B z]) ((allN_no li hno).symm)
  ·have hyes := refAt_at (r := nth r.Objs i) e
   have hcl := objCells_len e1 hn
   have c3 := Equal_ints (objCells h n) (nth r.Objs i).Cells (by omega)
   by_cases e4 : objCells h n = (nth r.Objs i).Cells
   ·rw [decide_eq_true e4] at hyes c3
    repeat' ((conv=>whnf);first|with_reducible (first|refine Lm ?_|refine Wm (by omega) ?_|refine Ix.nat (get_map hx) ?_|refine dT (by omega) (fun hq => ?_)|refine Bn ?_|refine Fm rfl ?_)|refine Bt ?_|refine Bu ?_|refine Cl.mk (Contents_at h (nth r.Objs i).Id n hs e1 hn e) ?_|refine Cl.eq (c3) ⟨⟨rfl, rIntS_fz _⟩, ⟨rfl, rfl⟩, trivial⟩ ?_)
    ((conv=>whnf);refine Nx.mk (i + 1) ⟨by omega, allN_yes ai hyes⟩ (by omega) ?_; (repeat' (first|exact trivial|rfl|refine And.intro ?_ ?_|(exact wkI (by first|omega|(simp only; omega)|(simp; omega))))))
   ·rw [decide_eq_false e4] at hyes c3
    repeat' ((conv=>whnf);first|with_reducible (first|refine Lm ?_|refine Wm (by omega) ?_|refine Ix.nat (get_map hx) ?_|refine dT (by omega) (fun hq => ?_)|refine Bn ?_|refine Fm rfl ?_)|refine Bt ?_|refine Bu ?_|refine Cl.mk (Contents_at h (nth r.Objs i).Id n hs e1 hn e) ?_|refine Cl.eq (c3) ⟨⟨rfl, rIntS_fz _⟩, ⟨rfl, rfl⟩, trivial⟩ ?_)
    exact congrArg (fun z => [B z]) ((allN_no li hyes).symm)
 ·obtain rfl : i = r.Objs.length := by omega
  repeat' ((conv=>whnf);first|with_reducible (first|refine Lm ?_|refine Wm (by omega) ?_|refine dF (by omega) (fun hq => ?_)|refine Bn ?_|refine Fm rfl ?_)|refine Bt ?_|refine Bu ?_)
  exact congrArg (fun z => [B z]) (ai.symm)
def okTo (h : DHeap) (r : DRefObj) : Nat → Bool
 | 0 => false
 | k + 1 => decide (0 ≤ fstIx (sameId r.Id) h.Objs ∧ fstIx (sameId r.Id) h.Objs ≤ (k : Nat)) && decide (objCells h (fstIx (sameId r.Id) h.Objs).toNat = r.Cells)
theorem okTo_succ (h : DHeap) (r : DRefObj) (k : Nat) : okTo h r (k + 1) = (decide (0 ≤ fstIx (sameId r.Id) h.Objs ∧ fstIx (sameId r.Id) h.Objs ≤ (k : Nat)) && decide (objCells h (fstIx (sameId r.Id) h.Objs).toNat = r.Cells)) := rfl
theorem okTo_at {h : DHeap} {r : DRefObj} {k : Nat} (e : fstIx (sameId r.Id) h.Objs = (k : Nat)) : okTo h r (k + 1) = decide (objCells h k = r.Cells) := by
 rw [okTo_succ, e, Int.toNat_natCast, decide_eq_true (show (0 : Int) ≤ (k : Nat) ∧ ((k : Nat) : Int) ≤ (k : Nat) by omega), Bool.true_and]
theorem okTo_ne {h : DHeap} {r : DRefObj} {k : Nat} (e : fstIx (sameId r.Id) h.Objs ≠ (k : Nat)) : okTo h r (k + 1) = okTo h r k := by
 cases k with
 | zero => rw [okTo_succ, decide_eq_false (by omega)]; rfl
 | succ k =>
  rw [okTo_succ, okTo_succ]
  congr 1
  exact decide_eq_decide.2 (by omega)
theorem okTo_end (h : DHeap) (r : DRefObj) : okTo h r h.Objs.length = refAt h r := by
 rcases ix_cases h r.Id with e | ⟨n, hn, e⟩
 ·rw [refAt_no e]
  cases h.Objs.length with
  | zero => rfl
  | succ k => rw [okTo_succ, e]; rfl
 ·rw [refAt_at e]
  obtain ⟨k, hk⟩ : ∃ k, h.Objs.length = k + 1 := ⟨h.Objs.length - 1, by omega⟩
  rw [hk, okTo_succ, e, Int.toNat_natCast, decide_eq_true (by omega), Bool.true_and]
theorem RefSame_spec (h : DHeap) (r : DRefHeap) (hs : DHeap.sml h) (hw : DHeap.wf h) (hr : DRefHeap.sml r) : CallsA Tryz.prog 78 false [.val (some 24) (DHeap.enc .imm h), .val (some 2) (DRefHeap.enc .imm r)] .one [B (refSame h r)] := by
 have c1 := HeapOk_spec h hs hw
 have hlo : h.Objs.length ≤ 1048576 := hs.2.2.2.2.1.1
 have hlr : r.Objs.length ≤ 1048576 := hr.1
 cases e1 : heapS h <;> rw [e1] at c1
 ·refine fO (n := 69) [(10,12,[41,42,43,44,45,46,47,48,49,50,51,52]),(11,12,[54,55,56,57,58,59,60,61,62,63,64,65])] Tryz.func78 (by kernel_rfl) rfl (by kernel_rfl) (by rfl) (.inr ⟨trivial, trivial⟩) ?_
  repeat' ((conv=>whnf);first|with_reducible (first|refine Lm ?_|refine Wm (by omega) ?_|refine Bn ?_|refine Fm rfl ?_)|refine Bt ?_|refine Bu ?_|refine Cl.mk (c1) ?_)
  exact congrArg (fun z => [B z]) ((by unfold refSame; rw [e1]; rfl))
 by_cases e2 : h.Next = r.Next
 case neg =>
  refine fO (n := 69) [(10,12,[41,42,43,44,45,46,47,48,49,50,51,52]),(11,12,[54,55,56,57,58,59,60,61,62,63,64,65])] Tryz.func78 (by kernel_rfl) rfl (by kernel_rfl) (by rfl) (.inr ⟨trivial, trivial⟩) ?_
  repeat' ((conv=>whnf);first|with_reducible (first|refine Lm ?_|refine Wm (by omega) ?_|refine nT (by omega) (fun hq => ?_)|refine Bn ?_|refine Fm rfl ?_)|refine Bt ?_|refine Bu ?_|refine Cl.mk (c1) ?_)
  exact congrArg (fun z => [B z]) ((by unfold refSame; rw [decide_eq_false fun h => e2 h.1]; simp))
 by_cases e3 : h.Objs.length = r.Objs.length
 case neg =>
  refine fO (n := 69) [(10,12,[41,42,43,44,45,46,47,48,49,50,51,52]),(11,12,[54,55,56,57,58,59,60,61,62,63,64,65])] Tryz.func78 (by kernel_rfl) rfl (by kernel_rfl) (by rfl) (.inr ⟨trivial, trivial⟩) ?_
  repeat' ((conv=>whnf);first|with_reducible (first|refine Lm ?_|refine Wm (by omega) ?_|refine nT (by omega) (fun hq => ?_)|refine nF (by omega) (fun hq => ?_)|refine Bn ?_|refine Fm rfl ?_)|refine Bt ?_|refine Bu ?_|refine Cl.mk (c1) ?_)
  exact congrArg (fun z => [B z]) ((by unfold refSame; rw [decide_eq_false fun h => e3 h.2]; simp))
 rw [refSame_end e1 e2 e3]
 have hker := heapS_kernel e1
 refine fO (n := 69) [(10,12,[41,42,43,44,45,46,47,48,49,50,51,52]),(11,12,[54,55,56,57,58,59,60,61,62,63,64,65])] Tryz.func78 (by kernel_rfl) rfl (by kernel_rfl) (by rfl) (.inr ⟨trivial, trivial⟩) ?_
 repeat' ((conv=>whnf);first|with_reducible (first|refine Lm ?_|refine Wm (by omega) ?_|refine nF (by omega) (fun hq => ?_)|refine Bn ?_|refine Fm rfl ?_)|refine Bt ?_|refine Bu ?_|refine Cl.mk (c1) ?_)
 (conv=>whnf)
 refine Lp.mk (ι := Nat) (fun i => [(2, .hold .box (DHeap.enc .imm h)), (3, .hold .box (DRefHeap.enc .imm r)), (5, .hold .one [I ((i : Nat) : Int)])]) (fun i => i ≤ r.Objs.length ∧ allN i (fun i => refAt h (nth r.Objs i)) = true) (fun i => r.Objs.length - i) 0 ?_ ⟨Nat.zero_le _, rfl⟩ fun i hi => ?_
 ·repeat' (first|exact trivial|rfl|refine And.intro ?_ ?_|(exact wkI (by first|omega|(simp only; omega)|(simp; omega))))
 obtain ⟨hi, ai⟩ := hi
 by_cases li : i < r.Objs.length
 ·have hx := get_nth li
  repeat' ((conv=>whnf);first|with_reducible (first|refine Lm ?_|refine Wm (by omega) ?_|refine dT (by omega) (fun hq => ?_)|refine Bn ?_|refine Fm rfl ?_)|refine Bt ?_|refine Bu ?_)
  (conv=>whnf)
  refine Lp.mk (ι := Nat) (fun k => [(2, .hold .box (DHeap.enc .imm h)), (3, .hold .box (DRefHeap.enc .imm r)), (5, .hold .one [I ((i : Nat) : Int)]), (6, .hold .one [B (okTo h (nth r.Objs i) k)]), (7, .hold .one [I ((k : Nat) : Int)])]) (fun k => k ≤ h.Objs.length) (fun k => h.Objs.length - k) (0) ?_ (Nat.zero_le _) fun k hk => ?_
  ·repeat' (first|exact trivial|rfl |refine And.intro ?_ ?_|(exact wkI (by first|omega|(simp only; omega)|(simp; omega))))
  by_cases lk : k < h.Objs.length
  ·have hy := get_nth lk
   have hb := obj_cells e1 lk
   have c2 := l31Cells_spec h (nth h.Objs k) hker (by omega) (by omega)
   have hcl := objCells_len e1 lk
   have c3 := l33Same_spec (objCells h k) (nth r.Objs i).Cells (by omega)
   have hiff := ix_iff e1 (z := (nth r.Objs i).Id) lk
   by_cases e : (nth h.Objs k).Id = (nth r.Objs i).Id
   ·rw [← okTo_at (hiff.1 e)] at c3
    repeat' ((conv=>whnf);first|with_reducible (first|refine Lm ?_|refine Wm (by omega) ?_|refine Ix.nat (get_map hx) ?_|refine Ix.nat (get_map hy) ?_|refine dT (by omega) (fun hq => ?_)|refine eT (by omega) (fun hq => ?_)|refine Bn ?_|refine Fm rfl ?_)|refine Bt ?_|refine Bu ?_|refine Cl.eq (c2) ⟨DHeap.enc_fzi h, ⟨rfl, rfl⟩, trivial⟩ ?_|refine Cl.eq (c3) ⟨⟨rfl, rIntS_fz _⟩, ⟨rfl, rfl⟩, trivial⟩ ?_)
    ((conv=>whnf);refine Nx.mk (k + 1) (by omega) (by omega) ?_; (repeat' (first|exact trivial|rfl|refine And.intro ?_ ?_|(exact wkI (by first|omega|(simp only; omega)|(simp; omega))))))
   ·repeat' ((conv=>whnf);first|with_reducible (first|refine Lm ?_|refine Wm (by omega) ?_|refine Ix.nat (get_map hx) ?_|refine Ix.nat (get_map hy) ?_|refine dT (by omega) (fun hq => ?_)|refine eF (by omega) (fun hq => ?_)|refine Bn ?_|refine Fm rfl ?_)|refine Bt ?_|refine Bu ?_)
    ((conv=>whnf);refine Nx.mk (k + 1) (by omega) (by omega) ?_)
    rw [okTo_ne fun h => e (hiff.2 h)]
    repeat' (first|exact trivial|rfl|refine And.intro ?_ ?_|(exact wkI (by first|omega|(simp only; omega)|(simp; omega))))
  ·obtain rfl : k = h.Objs.length := by omega
   cases e : refAt h (nth r.Objs i)
   ·rw [okTo_end, e]
    repeat' ((conv=>whnf);first|with_reducible (first|refine Lm ?_|refine Wm (by omega) ?_|refine dF (by omega) (fun hq => ?_)|refine Bn ?_|refine Fm rfl ?_)|refine Bt ?_|refine Bu ?_)
    exact congrArg (fun z => [B z]) ((allN_no li e).symm)
   ·rw [okTo_end, e]
    repeat' ((conv=>whnf);first|with_reducible (first|refine Lm ?_|refine Wm (by omega) ?_|refine dF (by omega) (fun hq => ?_)|refine Bn ?_|refine Fm rfl ?_)|refine Bt ?_|refine Bu ?_)
    ((conv=>whnf);refine Nx.mk (i + 1) ⟨by omega, allN_yes ai e⟩ (by omega) ?_; (repeat' (first|exact trivial|rfl|refine And.intro ?_ ?_|(exact wkI (by first|omega|(simp only; omega)|(simp; omega))))))
 ·obtain rfl : i = r.Objs.length := by omega
  repeat' ((conv=>whnf);first|with_reducible (first|refine Lm ?_|refine Wm (by omega) ?_|refine dF (by omega) (fun hq => ?_)|refine Bn ?_|refine Fm rfl ?_)|refine Bt ?_|refine Bu ?_)
  exact congrArg (fun z => [B z]) (ai.symm)
end Go.Proofs.YtjgjnlppphejpaaGreat.Ab
