/- The reference and the program mean the same by a valid heap. No condition. -/
import Derived.Test.YtogajjgmcnjkbaaGreatMj

namespace Go.Proofs.YtogajjgmcnjkbaaGreat.Ab
/- lists -/
theorem nth_inj {α : Type} [Inhabited α] {xs : List α} {f : α → Int} (hn : (xs.map f).Nodup) {i j : Nat} (hi : i < xs.length) (hj : j < xs.length) (h : f (nth xs i) = f (nth xs j)) : i = j := by
 have h1 := List.pairwise_iff_getElem.1 hn
 rcases Nat.lt_trichotomy i j with hlt | rfl | hlt
 ·have := h1 i j (by simpa using hi) (by simpa using hj) hlt
  simp only [List.getElem_map] at this
  rw [nth_of (List.getElem?_eq_getElem hi), nth_of (List.getElem?_eq_getElem hj)] at h
  exact absurd h this
 ·rfl
 ·have := h1 j i (by simpa using hj) (by simpa using hi) hlt
  simp only [List.getElem_map] at this
  rw [nth_of (List.getElem?_eq_getElem hi), nth_of (List.getElem?_eq_getElem hj)] at h
  exact absurd h.symm this
theorem mem_nth {α : Type} [Inhabited α] {xs : List α} {x : α} (h : x ∈ xs) : ∃ i, i < xs.length ∧ nth xs i = x := by
 obtain ⟨i, hi⟩ := List.mem_iff_getElem?.1 h
 exact ⟨i, (List.getElem?_eq_some_iff.1 hi).1, nth_of hi⟩
theorem sub_of_len : ∀ {H L : List Int}, H.Nodup → (∀ x ∈ H, x ∈ L) → L.length ≤ H.length → ∀ x ∈ L, x ∈ H
 | [], L, _, _, hl, x, hx => by
  have : L = [] := List.eq_nil_of_length_eq_zero (by simpa using hl)
  subst this; exact hx
 | y :: H, L, hn, hs, hl, x, hx => by
  have hy : y ∈ L := hs y (List.mem_cons_self ..)
  have hn2 := List.nodup_cons.1 hn
  by_cases hxy : x = y
  ·subst hxy; exact List.mem_cons_self ..
  ·refine List.mem_cons_of_mem _ (sub_of_len (L := L.erase y) hn2.2 (fun z hz => ?_) ?_ x ((List.mem_erase_of_ne hxy).2 hx))
   ·exact (List.mem_erase_of_ne (fun e : z = y => hn2.1 (by rw [← e]; exact hz))).2 (hs z (List.mem_cons_of_mem _ hz))
   ·rw [List.length_erase_of_mem hy]
    simp only [List.length_cons] at hl
    omega
theorem count_one {H L : List Int} (hL : L.Nodup) (hs : ∀ x ∈ H, x ∈ L) : (H.Nodup ∧ H.length = L.length) ↔ ∀ a ∈ L, H.count a = 1 := by
 constructor
 ·rintro ⟨hn, hl⟩ a ha
  have hm := sub_of_len hn hs (by omega) a ha
  have h1 := List.nodup_iff_count.1 hn a
  have h2 := List.count_pos_iff.2 hm
  omega
 ·intro hc
  have hn : H.Nodup := List.nodup_iff_count.2 fun a => by
   by_cases ha : a ∈ H
   ·rw [hc a (hs a ha)]; exact Nat.le_refl 1
   ·rw [List.count_eq_zero_of_not_mem ha]; exact Nat.zero_le _
  refine ⟨hn, ?_⟩
  have : H.Perm L := List.perm_iff_count.2 fun a => by
   by_cases ha : a ∈ L
   ·rw [hc a ha]
    have h1 := List.nodup_iff_count.1 hL a
    have h2 := List.count_pos_iff.2 ha
    omega
   ·rw [List.count_eq_zero_of_not_mem ha, List.count_eq_zero_of_not_mem fun h => ha (hs a h)]
  exact this.length_eq
/- layouts -/
theorem mem_lpgs {l : DLarge} {n : Nat} {p : Int} : p ∈ lpgs l n ↔ ∃ k : Nat, k < n ∧ p = l.Page + (k : Nat) := by
 unfold lpgs; simp only [List.mem_map, List.mem_range]
 constructor
 ·rintro ⟨k, hk, rfl⟩; exact ⟨k, hk, rfl⟩
 ·rintro ⟨k, hk, rfl⟩; exact ⟨k, hk, rfl⟩
structure Lay (sp : List DSpan) (la : List DLarge) : Prop where
 sok : ∀ s ∈ sp, spanOk s = true
 lok : ∀ l ∈ la, largeOk l = true
 nd : (sp.map (·.Page)).Nodup
 dis : ∀ s ∈ sp, ∀ l ∈ la, ∀ k : Nat, k < l.Pages.toNat → s.Page ≠ l.Page + (k : Nat)
 one : ∀ i j, i < la.length → j < la.length → ∀ k k' : Nat, k < (nth la i).Pages.toNat → k' < (nth la j).Pages.toNat → (nth la i).Page + (k : Nat) = (nth la j).Page + (k' : Nat) → i = j
theorem Lay.of {sp : List DSpan} {la : List DLarge} (h : layoutOk sp la = true) : Lay sp la := by
 obtain ⟨h1, h2, h3⟩ := layoutOk_facts h
 unfold pgs at h3
 rw [List.nodup_append] at h3
 obtain ⟨h4, h5, h6⟩ := h3
 have h7 := List.pairwise_flatMap.1 h5
 refine ⟨fun s hs => List.all_eq_true.1 h1 s hs, fun l hl => List.all_eq_true.1 h2 l hl, h4, fun s hs l hl k hk e => ?_, fun i j hi hj k k' hk hk' e => ?_⟩
 ·exact h6 _ (List.mem_map.2 ⟨s, hs, rfl⟩) _ (List.mem_flatMap.2 ⟨l, hl, mem_lpgs.2 ⟨k, hk, rfl⟩⟩) e
 ·have h8 := List.pairwise_iff_getElem.1 h7.2
  have ei := nth_of (List.getElem?_eq_getElem hi)
  have ej := nth_of (List.getElem?_eq_getElem hj)
  rw [ei] at hk e
  rw [ej] at hk' e
  rcases Nat.lt_trichotomy i j with hlt | heq | hlt
  ·exact absurd e (h8 i j hi hj hlt _ (mem_lpgs.2 ⟨k, hk, rfl⟩) _ (mem_lpgs.2 ⟨k', hk', rfl⟩))
  ·exact heq
  ·exact absurd e.symm (h8 j i hj hi hlt _ (mem_lpgs.2 ⟨k', hk', rfl⟩) _ (mem_lpgs.2 ⟨k, hk, rfl⟩))
/- addresses in use -/
theorem slotIn_iff {s : DSpan} {a : Int} (hs : spanOk s = true) : slotIn s a = true ↔ 16 * s.Page ≤ a ∧ a ≤ 16 * s.Page + 15 := by
 unfold slotIn; rw [hs]; simp
theorem denotes_span' {sp : List DSpan} {la : List DLarge} (hL : Lay sp la) {a : Int} {i : Nat} (hi : i < sp.length) (h : 16 * (nth sp i).Page ≤ a ∧ a ≤ 16 * (nth sp i).Page + 15) : denotes sp la a = ownS i (nth sp i) a := by
 refine denotes_span hi ((slotIn_iff (hL.sok _ (nth_mem hi))).2 h) fun j z hj hz => ?_
 cases e : slotIn z a with
 | false => rfl
 | true =>
  exfalso
  have hjl := (List.getElem?_eq_some_iff.1 hz).1
  have h2 := (slotIn_iff (hL.sok z (List.mem_of_getElem? hz))).1 e
  have hzj := nth_of hz
  subst hzj
  have := nth_inj (f := (·.Page)) hL.nd hi hjl (by omega)
  omega
theorem noSpan {sp : List DSpan} {la : List DLarge} (hL : Lay sp la) {a : Int} (h : ∀ i, i < sp.length → ¬ (16 * (nth sp i).Page ≤ a ∧ a ≤ 16 * (nth sp i).Page + 15)) : ∀ (j : Nat) (z : DSpan), j < sp.length → sp[j]? = some z → slotIn z a = false := by
 intro j z hj hz
 cases e : slotIn z a with
 | false => rfl
 | true =>
  have h2 := (slotIn_iff (hL.sok z (List.mem_of_getElem? hz))).1 e
  have hzj := nth_of hz
  subst hzj
  exact absurd h2 (h j hj)
theorem live_iff {sp : List DSpan} {la : List DLarge} (hL : Lay sp la) (a : Int) : a ∈ live0 sp la ↔ a ∈ liveS sp la := by
 have hS : a ∈ liveS sp la ↔ ∃ n : Nat, n < 512 ∧ liveAt sp la n = true ∧ (n : Int) = a := by
  unfold liveS liveN
  simp only [List.mem_map, List.mem_filter, List.mem_range]
  constructor
  ·rintro ⟨n, ⟨h1, h2⟩, h3⟩; exact ⟨n, h1, h2, h3⟩
  ·rintro ⟨n, h1, h2, h3⟩; exact ⟨n, ⟨h1, h2⟩, h3⟩
 rw [hS]
 unfold live0 spansLive
 rw [List.mem_append, List.mem_flatMap, List.mem_map]
 constructor
 ·rintro (⟨s, hs, ha⟩ | ⟨l, hl, rfl⟩)
  ·obtain ⟨i, hi, rfl⟩ := mem_nth hs
   unfold spanLive at ha
   obtain ⟨k, hk, rfl⟩ := List.mem_map.1 ha
   obtain ⟨hk1, hk2⟩ := List.mem_filter.1 hk
   have hk1 := List.mem_range.1 hk1
   have hc := spanOk_class (hL.sok _ hs)
   have hsc := slots_csz ⟨hc.2.2.1, hc.2.2.2⟩
   have hsb := slots_bd (nth sp i).Class
   unfold slotAddr
   have hbd : 0 ≤ (k : Int) * csz (nth sp i).Class ∧ (k : Int) * csz (nth sp i).Class ≤ 15 := by
    rcases csz_cases ⟨hc.2.2.1, hc.2.2.2⟩ with e | e | e | e <;> rw [e] at hsc ⊢ <;> omega
   have hd := denotes_span' hL hi (a := 16 * (nth sp i).Page + (k : Nat) * csz (nth sp i).Class) (by omega)
   have hq : (16 * (nth sp i).Page + (k : Nat) * csz (nth sp i).Class - 16 * (nth sp i).Page) / csz (nth sp i).Class = (k : Nat) ∧ (16 * (nth sp i).Page + (k : Nat) * csz (nth sp i).Class - 16 * (nth sp i).Page) % csz (nth sp i).Class = 0 := by
    rcases csz_cases ⟨hc.2.2.1, hc.2.2.2⟩ with e | e | e | e <;> rw [e] <;> omega
   refine ⟨(16 * (nth sp i).Page + (k : Nat) * csz (nth sp i).Class).toNat, by omega, ?_, by omega⟩
   have hcast : (((16 * (nth sp i).Page + (k : Nat) * csz (nth sp i).Class).toNat : Nat) : Int) = 16 * (nth sp i).Page + (k : Nat) * csz (nth sp i).Class := by omega
   unfold liveAt
   rw [hcast, hd]
   simp only [ownS, hq.1, hq.2, hk2]
   rfl
  ·obtain ⟨i, hi, rfl⟩ := mem_nth hl
   have hf := largeOk_pages (hL.lok _ hl)
   have hf2 := largeOk_facts (hL.lok _ hl)
   have h1 := noSpan hL (a := 16 * (nth la i).Page) fun j hj he => hL.dis _ (nth_mem hj) _ hl 0 (by omega) (by omega)
   have hh : largeHas (nth la i) (16 * (nth la i).Page) = true := by
    unfold largeHas; rw [hL.lok _ hl, decide_eq_true (by omega)]; rfl
   have hd := denotes_large (a := 16 * (nth la i).Page) (Nat.le_refl _) h1 hi hh fun j z hj hz => by
    cases e : largeHas z (16 * (nth la i).Page) with
    | false => rfl
    | true =>
     exfalso
     have hjl := (List.getElem?_eq_some_iff.1 hz).1
     have hzm := List.mem_of_getElem? hz
     have hzj := nth_of hz
     subst hzj
     have hf3 := largeOk_pages (hL.lok _ hzm)
     have hlo := hL.lok _ hzm
     unfold largeOk at hlo
     rw [decide_eq_true_eq] at hlo
     unfold largeHas at e
     rw [Bool.and_eq_true, decide_eq_true_eq] at e
     have := hL.one i j hi hjl 0 ((nth la i).Page - (nth la j).Page).toNat (by omega) (by omega) (by omega)
     omega
   refine ⟨(16 * (nth la i).Page).toNat, by omega, ?_, by omega⟩
   have hcast : (((16 * (nth la i).Page).toNat : Nat) : Int) = 16 * (nth la i).Page := by omega
   unfold liveAt
   rw [hcast, hd]
   simp
 ·rintro ⟨n, hn, hl, rfl⟩
  cases h1 : sp.findIdx? (slotIn · (n : Nat)) with
  | some i =>
   obtain ⟨hi, hp, -⟩ := List.findIdx?_eq_some_iff_getElem.1 h1
   have hi' := nth_of (List.getElem?_eq_getElem hi)
   rw [← hi'] at hp
   have hs := hL.sok _ (nth_mem hi)
   have h2 := (slotIn_iff hs).1 hp
   have hc := spanOk_class hs
   have hsc := slots_csz ⟨hc.2.2.1, hc.2.2.2⟩
   have hd : denotes sp la (n : Nat) = ownS i (nth sp i) (n : Nat) := by unfold denotes; rw [h1]
   rw [liveAt_w hd] at hl
   simp only [Bool.and_eq_true, Bool.or_eq_true, decide_eq_true_eq] at hl
   simp only [ownS] at hl
   cases hh : hasSlot (nth sp i).Bits (((n : Int) - 16 * (nth sp i).Page) / csz (nth sp i).Class) with
   | false => rw [hh] at hl; simp at hl
   | true =>
    have hz : ((n : Int) - 16 * (nth sp i).Page) % csz (nth sp i).Class = 0 := hl.1
    refine .inl ⟨nth sp i, nth_mem hi, ?_⟩
    unfold spanLive
    refine List.mem_map.2 ⟨(((n : Int) - 16 * (nth sp i).Page) / csz (nth sp i).Class).toNat, List.mem_filter.2 ⟨List.mem_range.2 ?_, ?_⟩, ?_⟩
    ·rcases csz_cases ⟨hc.2.2.1, hc.2.2.2⟩ with e | e | e | e <;> rw [e] at hsc hz ⊢ <;> omega
    ·have : ((((n : Int) - 16 * (nth sp i).Page) / csz (nth sp i).Class).toNat : Int) = ((n : Int) - 16 * (nth sp i).Page) / csz (nth sp i).Class := by
      rcases csz_cases ⟨hc.2.2.1, hc.2.2.2⟩ with e | e | e | e <;> rw [e] <;> omega
     rw [this]; exact hh
    ·unfold slotAddr
     rcases csz_cases ⟨hc.2.2.1, hc.2.2.2⟩ with e | e | e | e <;> rw [e] at hz ⊢ <;> omega
  | none =>
   cases h2 : la.findIdx? (largeHas · (n : Nat)) with
   | some i =>
    obtain ⟨hi, hp, -⟩ := List.findIdx?_eq_some_iff_getElem.1 h2
    have hd : denotes sp la (n : Nat) = ⟨3, i, 0, (n : Nat) - 16 * (nth la i).Page⟩ := by unfold denotes; rw [h1, h2]
    rw [liveAt_w hd] at hl
    simp only [Bool.and_eq_true, decide_eq_true_eq] at hl
    exact .inr ⟨nth la i, nth_mem hi, by have := hl.1; omega⟩
   | none =>
    have hd : denotes sp la (n : Nat) = ⟨0, 0, 0, 0⟩ := by unfold denotes; rw [h1, h2]
    rw [liveAt_w hd] at hl; simp at hl
end Go.Proofs.YtogajjgmcnjkbaaGreat.Ab
/- The reference and the program mean the same by a valid heap: holders, spans on one frame, the whole. No condition. -/
namespace Go.Proofs.YtogajjgmcnjkbaaGreat.Ab
theorem live_of {sp : List DSpan} {la : List DLarge} (hL : Lay sp la) {a : Int} (h0 : (denotes sp la a).Offset = 0) (hk : (denotes sp la a).Kind = 1 ∨ (denotes sp la a).Kind = 3) : a ∈ liveS sp la := by
 have hb : 0 ≤ a ∧ a < 512 := by
  unfold denotes at h0 hk
  cases h1 : sp.findIdx? (slotIn · a) with
  | some i =>
   obtain ⟨hi, hp, -⟩ := List.findIdx?_eq_some_iff_getElem.1 h1
   have hm := List.getElem_mem hi
   have h2 := (slotIn_iff (hL.sok _ hm)).1 hp
   have hc := spanOk_class (hL.sok _ hm)
   omega
  | none =>
   rw [h1] at h0 hk
   cases h2 : la.findIdx? (largeHas · a) with
   | some i =>
    obtain ⟨hi, -⟩ := List.findIdx?_eq_some_iff_getElem.1 h2
    rw [h2] at h0
    have hf := largeOk_pages (hL.lok _ (nth_mem hi))
    simp only at h0
    omega
   | none => rw [h2] at hk; simp at hk
 have hc : ((a.toNat : Nat) : Int) = a := by omega
 unfold liveS liveN
 refine List.mem_map.2 ⟨a.toNat, List.mem_filter.2 ⟨List.mem_range.2 (by omega), ?_⟩, hc⟩
 unfold liveAt
 rw [hc]
 simp only [Bool.and_eq_true, Bool.or_eq_true, decide_eq_true_eq]
 exact ⟨h0, hk⟩
theorem liveS_nodup (sp : List DSpan) (la : List DLarge) : (liveS sp la).Nodup := by
 unfold liveS liveN List.Nodup
 rw [List.pairwise_map]
 exact (List.nodup_range.sublist List.filter_sublist).imp fun h e => h (by omega)
theorem held_live {h : DHeap} (hL : Lay h.Spans h.Larges) {a c : Int} (hh : slotHeld h a c = true) : a ∈ liveS h.Spans h.Larges := by
 unfold slotHeld at hh
 simp only [Bool.and_eq_true, decide_eq_true_eq] at hh
 exact live_of hL hh.1.2 (.inl hh.1.1)
theorem obj_live {h : DHeap} (hL : Lay h.Spans h.Larges) {o : DObj} (hh : ownsObj h o = true) : o.Addr ∈ liveS h.Spans h.Larges := by
 unfold ownsObj at hh
 simp only [Bool.and_eq_true, Bool.or_eq_true, decide_eq_true_eq] at hh
 exact live_of hL hh.1 (hh.2.elim (fun e => .inl e.1) (fun e => .inr e.1))
theorem count_same (h : DHeap) (a : Int) : (holdersI h).count a = (holders h).count a := by
 unfold holdersI holders
 simp only [List.count_append]
 omega
theorem heldAll_iff (h : DHeap) : heldAll h = true ↔ (h.Caches.all (cacheHeld h) = true ∧ h.Quar.Lst.all (quarHeld h) = true) ∧ (inFlight h.Mail).all (flyHeld h) = true := by
 unfold heldAll; simp only [Bool.and_eq_true]
theorem holders_live {h : DHeap} (hL : Lay h.Spans h.Larges) (ho : objsAll h = true) (hh : heldAll h = true) : ∀ a ∈ holders h, a ∈ liveS h.Spans h.Larges := by
 obtain ⟨⟨h1, h2⟩, h3⟩ := (heldAll_iff h).1 hh
 intro a ha
 unfold holders at ha
 simp only [List.mem_append] at ha
 rcases ha with ((ha | ha) | ha) | ha
 ·obtain ⟨o, hom, rfl⟩ := List.mem_map.1 ha
  obtain ⟨i, hi, rfl⟩ := mem_nth hom
  have h4 := allN_at ho hi
  unfold objAt at h4
  rw [Bool.and_eq_true] at h4
  exact obj_live hL h4.2
 ·unfold cacheAddrs at ha
  obtain ⟨c, hc, ha⟩ := List.mem_flatMap.1 ha
  obtain ⟨l, hl, ha⟩ := List.mem_flatten.1 ha
  obtain ⟨k, hk, rfl⟩ := mem_nth hl
  have h4 := List.all_eq_true.1 h1 c hc
  unfold cacheHeld at h4
  have h5 := List.all_eq_true.1 (show (nth c.Lists k).all _ = true from allN_at h4 hk) a ha
  exact held_live hL h5
 ·obtain ⟨x, hx, rfl⟩ := List.mem_map.1 ha
  exact held_live hL (List.all_eq_true.1 h2 x hx)
 ·exact held_live hL (List.all_eq_true.1 h3 a ha)
theorem once_same {h : DHeap} (hlay : layoutOk h.Spans h.Larges = true) (ho : objsAll h = true) : (sinceOk h && onceS h) = onceI h := by
 have hL := Lay.of hlay
 have hq : (sinceOk h = true ∧ h.Quar.Lst.all (quarHeld h) = true) ↔ h.Quar.Lst.all (quarI h) = true := by
  unfold sinceOk quarI
  simp only [List.all_eq_true, Bool.and_eq_true]
  exact ⟨fun e x hx => ⟨e.2 x hx, e.1 x hx⟩, fun e => ⟨fun x hx => (e x hx).2, fun x hx => (e x hx).1⟩⟩
 have hI : onceI h = true ↔ ((h.Caches.all (cacheHeld h) = true ∧ h.Quar.Lst.all (quarI h) = true) ∧ (inFlight h.Mail).all (flyHeld h) = true) ∧ ∀ a ∈ liveS h.Spans h.Larges, (holders h).count a = 1 := by
  unfold onceI
  simp only [Bool.and_eq_true]
  refine and_congr Iff.rfl ?_
  simp only [List.all_eq_true, decide_eq_true_eq, count_same]
  unfold liveI sorted
  simp only [List.mem_mergeSort, live_iff hL]
 have hSS : onceS h = true ↔ heldAll h = true ∧ ((holders h).Nodup ∧ (holders h).length = (liveS h.Spans h.Larges).length) := by
  unfold onceS
  simp only [Bool.and_eq_true, decide_eq_true_eq, and_assoc]
 rw [Bool.eq_iff_iff, Bool.and_eq_true, hI, hSS]
 constructor
 ·rintro ⟨h1, h2, h3⟩
  obtain ⟨⟨h4, h5⟩, h6⟩ := (heldAll_iff h).1 h2
  exact ⟨⟨⟨h4, hq.1 ⟨h1, h5⟩⟩, h6⟩, (count_one (liveS_nodup ..) (holders_live hL ho h2)).1 h3⟩
 ·rintro ⟨⟨⟨h1, h2⟩, h3⟩, h4⟩
  obtain ⟨h5, h6⟩ := hq.2 h2
  have h7 : heldAll h = true := (heldAll_iff h).2 ⟨⟨h1, h6⟩, h3⟩
  exact ⟨h5, h7, (count_one (liveS_nodup ..) (holders_live hL ho h7)).2 h4⟩
/- spans on one frame -/
theorem mesh_comm (s t : DSpan) : meshable s t = meshable t s := by
 unfold meshable
 rw [Bool.and_comm (spanOk s)]
 congr 1
 refine decide_eq_decide.2 ?_
 rw [Nat.and_comm]
 exact ⟨fun h => ⟨h.1.symm, fun e => h.2.1 e.symm, h.2.2⟩, fun h => ⟨h.1.symm, fun e => h.2.1 e.symm, h.2.2⟩⟩
theorem mem_pagesOn {t : DTable} {f : Int} {p : Nat} : (p : Int) ∈ pagesOn t f ↔ p < t.Entries.length ∧ (nth t.Entries p).Mode ≠ 0 ∧ (nth t.Entries p).Frame = f := by
 unfold pagesOn pgsOn
 simp only [List.mem_map, List.mem_filter, List.mem_range]
 constructor
 ·rintro ⟨n, ⟨h1, h2⟩, h3⟩
  obtain rfl : n = p := by omega
  unfold onF at h2
  rw [decide_eq_true_eq] at h2
  exact ⟨h1, h2⟩
 ·rintro ⟨h1, h2⟩
  exact ⟨p, ⟨h1, by unfold onF; rw [decide_eq_true_eq]; exact h2⟩, rfl⟩
theorem pagesOn_nat {t : DTable} {f q : Int} (h : q ∈ pagesOn t f) : ∃ p : Nat, q = (p : Nat) := by
 unfold pagesOn pgsOn at h
 obtain ⟨n, -, rfl⟩ := List.mem_map.1 h
 exact ⟨n, rfl⟩
theorem pages0_facts {h : DHeap} (hp : pages0 h = true) : (∀ i, i < h.Larges.length → ∀ k : Nat, k < (nth h.Larges i).Pages.toNat → (framePages h ((nth h.Larges i).Page + (k : Nat))).length = 1) ∧ (∀ p ∈ pgs h.Spans h.Larges, p < pgN h) ∧ ∀ p : Nat, p < pgN h → ((nth (tbl h).Entries p).Mode ≠ 0 ↔ (p : Int) ∈ pgs h.Spans h.Larges) := by
 unfold pages0 at hp
 simp only [Bool.and_eq_true] at hp
 obtain ⟨⟨⟨-, h1⟩, h2⟩, h3⟩ := hp
 refine ⟨fun i hi k hk => ?_, fun p hp => ?_, fun p hp => ?_⟩
 ·have h4 := allN_at h1 hi
  unfold lgAt at h4
  rw [Bool.and_eq_true] at h4
  have h5 := allN_at h4.2 hk
  unfold onePg at h5
  rw [decide_eq_true_eq] at h5
  exact h5
 ·have := List.all_eq_true.1 h2 p hp
  rw [decide_eq_true_eq] at this
  exact this
 ·have h4 := allN_at h3 hp
  unfold pgAt at h4
  rw [Bool.and_eq_true, decide_eq_true_eq] at h4
  exact h4.1
theorem pe_at {h : DHeap} {p : Nat} (hp : p < pgN h) : pageEntry (tbl h) (p : Nat) = nth (tbl h).Entries p := pageEntry_nat hp
theorem framePages_at {h : DHeap} {p : Nat} (hp : p < pgN h) (hm : (nth (tbl h).Entries p).Mode ≠ 0) : framePages h (p : Nat) = pagesOn (tbl h) (nth (tbl h).Entries p).Frame := by
 unfold framePages
 rw [show h.Kernel.Machine.Table = tbl h from rfl, pe_at hp, if_neg hm]
theorem spanOn_at {h : DHeap} (hL : Lay h.Spans h.Larges) {j : Nat} (hj : j < h.Spans.length) : spanOn h (nth h.Spans j).Page = (j : Nat) := by
 unfold spanOn
 refine fstIx_yes (get_nth hj) (by unfold atPage; simp) fun k z hk hz => ?_
 have hzk := nth_of hz
 have hkl := (List.getElem?_eq_some_iff.1 hz).1
 subst hzk
 unfold atPage
 refine decide_eq_false fun e => ?_
 have := nth_inj (f := (·.Page)) hL.nd hkl hj e
 omega
theorem mesh_same {h : DHeap} (hlay : layoutOk h.Spans h.Larges = true) (hp : pages0 h = true) : meshS h = meshI h := by
 have hL := Lay.of hlay
 obtain ⟨f1, f2, f3⟩ := pages0_facts hp
 -- a span's page
 have hpg : ∀ i, i < h.Spans.length → ∃ p : Nat, (nth h.Spans i).Page = (p : Nat) ∧ p < pgN h ∧ (nth (tbl h).Entries p).Mode ≠ 0 := fun i hi => by
  have hc := spanOk_class (hL.sok _ (nth_mem hi))
  have hm : (nth h.Spans i).Page ∈ pgs h.Spans h.Larges := by
   unfold pgs; exact List.mem_append.2 (.inl (List.mem_map.2 ⟨_, nth_mem hi, rfl⟩))
  have hlt := f2 _ hm
  refine ⟨(nth h.Spans i).Page.toNat, by omega, by omega, ?_⟩
  refine (f3 _ (by omega)).2 ?_
  rw [show (((nth h.Spans i).Page.toNat : Nat) : Int) = (nth h.Spans i).Page by omega]
  exact hm
 rw [Bool.eq_iff_iff]
 unfold meshS meshI
 rw [allN_iff, allN_iff]
 constructor
 ·intro hs i hi
  rw [allN_iff]
  intro j hj
  have hjl : j < h.Spans.length := by omega
  unfold pairAt
  rw [Bool.or_eq_true, decide_eq_true_eq]
  by_cases hfr : (pageEntry (tbl h) (nth h.Spans i).Page).Frame = (pageEntry (tbl h) (nth h.Spans j).Page).Frame
  ·right
   obtain ⟨p, hp1, hp2, hp3⟩ := hpg i hi
   obtain ⟨q, hq1, hq2, hq3⟩ := hpg j hjl
   have h1 := List.all_eq_true.1 (hs i hi)
   rw [hp1, hq1, pe_at hp2, pe_at hq2] at hfr
   have h2 : (q : Int) ∈ framePages h (nth h.Spans i).Page := by
    rw [hp1, framePages_at hp2 hp3]
    exact mem_pagesOn.2 ⟨hq2, hq3, hfr.symm⟩
   have h3 := h1 _ h2
   unfold meshAt at h3
   rw [← hq1, spanOn_at hL hjl] at h3
   rw [Bool.or_eq_true, Bool.and_eq_true, decide_eq_true_eq] at h3
   rcases h3 with h3 | h3
   ·omega
   ·simpa using h3.2
  ·exact .inl hfr
 ·intro hi0 i hi
  rw [List.all_eq_true]
  intro q hq
  obtain ⟨p, hp1, hp2, hp3⟩ := hpg i hi
  have hq0 := hq
  rw [hp1, framePages_at hp2 hp3] at hq
  obtain ⟨q', rfl⟩ := pagesOn_nat hq
  obtain ⟨hq2, hq3, hq4⟩ := mem_pagesOn.1 hq
  have hqm := (f3 q' hq2).1 hq3
  unfold pgs at hqm
  rw [List.mem_append, List.mem_map, List.mem_flatMap] at hqm
  rcases hqm with ⟨s, hs, hsp⟩ | ⟨l, hl, hlp⟩
  ·obtain ⟨j, hj, rfl⟩ := mem_nth hs
   unfold meshAt
   rw [← hsp, spanOn_at hL hj]
   rw [Bool.or_eq_true, Bool.and_eq_true, decide_eq_true_eq, decide_eq_true_eq]
   have hfr : (pageEntry (tbl h) (nth h.Spans i).Page).Frame = (pageEntry (tbl h) (nth h.Spans j).Page).Frame := by
    rw [hp1, hsp, pe_at hp2, pe_at hq2, hq4]
   rcases Nat.lt_trichotomy j i with hlt | heq | hlt
   ·have h1 := allN_at (hi0 i hi) hlt
    unfold pairAt at h1
    rw [Bool.or_eq_true, decide_eq_true_eq] at h1
    exact .inr ⟨by omega, by simpa using h1.resolve_left fun e => e hfr⟩
   ·exact .inl (by omega)
   ·have h1 := allN_at (hi0 j hj) hlt
    unfold pairAt at h1
    rw [Bool.or_eq_true, decide_eq_true_eq] at h1
    exact .inr ⟨by omega, by rw [mesh_comm]; simpa using h1.resolve_left fun e => e hfr.symm⟩
  ·exfalso
   obtain ⟨i2, hi2, rfl⟩ := mem_nth hl
   obtain ⟨k, hk, hkp⟩ := mem_lpgs.1 hlp
   have h1 := f1 i2 hi2 k hk
   rw [← hkp, framePages_at hq2 hq3] at h1
   have m1 : (q' : Int) ∈ pagesOn (tbl h) (nth (tbl h).Entries q').Frame := mem_pagesOn.2 ⟨hq2, hq3, rfl⟩
   have m2 : (p : Int) ∈ pagesOn (tbl h) (nth (tbl h).Entries q').Frame := mem_pagesOn.2 ⟨hp2, hp3, hq4.symm⟩
   obtain ⟨z, hz⟩ := List.length_eq_one_iff.1 h1
   rw [hz] at m1 m2
   simp only [List.mem_singleton] at m1 m2
   have := hL.dis _ (nth_mem hi) _ (nth_mem hi2) k hk
   omega
theorem heap_same (h : DHeap) : heapI h = heapS h := by
 unfold heapI heapS layAll
 cases e1 : kernelOk h.Kernel with
 | false => rfl
 | true =>
  cases e2 : rangesOk (pgN h) h.Free with
  | false => rfl
  | true =>
   cases e3 : layoutOk h.Spans h.Larges with
   | false => rfl
   | true =>
    cases e4 : pages0 h with
    | false => rfl
    | true =>
     rw [mesh_same e3 e4]
     cases e5 : objsAll h with
     | false => simp
     | true =>
      have := once_same e3 e5
      rw [← this]
      cases meshI h <;> cases mailCaches h <;> cases sinceOk h <;> cases h.Caches.all cacheOk <;> cases numsOk h <;> cases onceS h <;> cases jobAt h <;> rfl
end Go.Proofs.YtogajjgmcnjkbaaGreat.Ab
/- Pages given back one by one, as plain functions over a kernel's data; a valid kernel stays valid. No condition. -/
namespace Go.Proofs.YtogajjgmcnjkbaaGreat.Ab
/-- A frame on which no page lies, given back. -/
def dropK (k : DKernel) (f : Int) : DKernel := if (pagesOn k.Machine.Table f).length = 0 then { k with Machine := ⟨⟨k.Machine.Frames.Cells.set f.toNat (List.replicate 16 0), k.Machine.Frames.Used.set f.toNat false⟩, k.Machine.Table⟩ } else k
def clrK (k : DKernel) (p : Int) : DKernel := { k with Machine := ⟨k.Machine.Frames, ⟨k.Machine.Table.Entries.set p.toNat ⟨0, 0⟩⟩⟩ }
def unmapK (k : DKernel) (p : Int) : DKernel := if (pageEntry k.Machine.Table p).Mode = 0 then k else dropK (clrK k p) (pageEntry k.Machine.Table p).Frame
/-- The first n pages given back, and how many of them were mapped. -/
def destr (k : DKernel) : Nat → DKernel × Int
 | 0 => (k, 0)
 | n + 1 => if (pageEntry (destr k n).1.Machine.Table n).Mode = 0 then destr k n else (unmapK (destr k n).1 n, (destr k n).2 + 1)
def destroyed (h : DHeap) : DKernel × Int := if heapS h = true ∧ h.Kernel.Calls ≠ 100000 then destr h.Kernel h.Kernel.Machine.Table.Entries.length else (h.Kernel, 0)

theorem nth_set {α : Type} [Inhabited α] (xs : List α) (i j : Nat) (x : α) : nth (xs.set i x) j = if i = j ∧ j < xs.length then x else nth xs j := by
 unfold nth
 rw [List.getD_eq_getElem?_getD, List.getD_eq_getElem?_getD, List.getElem?_set]
 by_cases h : i = j
 ·subst h
  by_cases h2 : i < xs.length
  ·simp [h2]
  ·simp [h2]
 ·simp [h]
theorem dropK_len (k : DKernel) (f : Int) : (dropK k f).Machine.Table = k.Machine.Table ∧ (dropK k f).Calls = k.Calls ∧ (dropK k f).Refuse = k.Refuse ∧ (dropK k f).Machine.Frames.Cells.length = k.Machine.Frames.Cells.length ∧ (dropK k f).Machine.Frames.Used.length = k.Machine.Frames.Used.length := by
 unfold dropK; split <;> simp
theorem unmapK_len (k : DKernel) (p : Int) : (unmapK k p).Machine.Table.Entries.length = k.Machine.Table.Entries.length ∧ (unmapK k p).Calls = k.Calls ∧ (unmapK k p).Refuse = k.Refuse := by
 unfold unmapK
 split
 ·exact ⟨rfl, rfl, rfl⟩
 ·obtain ⟨h1, h2, h3, -⟩ := dropK_len (clrK k p) (pageEntry k.Machine.Table p).Frame
  rw [h1, h2, h3]; simp [clrK]
theorem destr_len (k : DKernel) : ∀ n, (destr k n).1.Machine.Table.Entries.length = k.Machine.Table.Entries.length ∧ (destr k n).1.Calls = k.Calls ∧ (destr k n).1.Refuse = k.Refuse ∧ 0 ≤ (destr k n).2 ∧ (destr k n).2 ≤ n
 | 0 => ⟨rfl, rfl, rfl, Int.le_refl _, Int.le_refl _⟩
 | n + 1 => by
  obtain ⟨h1, h2, h3, h4, h5⟩ := destr_len k n
  obtain ⟨g1, g2, g3⟩ := unmapK_len (destr k n).1 n
  unfold destr
  split
  ·exact ⟨h1, h2, h3, h4, by omega⟩
  ·exact ⟨g1.trans h1, g2.trans h2, g3.trans h3, by simp only; omega, by simp only; omega⟩
theorem kernelOk_iff {k : DKernel} : kernelOk k = true ↔ (∀ j, j < k.Refuse.length → 0 ≤ nth k.Refuse j) ∧ framesOk k.Machine.Frames = true ∧ tableOk k.Machine.Table k.Machine.Frames.Used.length = true ∧ (∀ j, j < k.Machine.Frames.Used.length → nth k.Machine.Frames.Used j = decide (0 < (pagesOn k.Machine.Table (j : Int)).length)) ∧ 0 ≤ k.Calls ∧ k.Calls ≤ 100000 ∧ k.Refuse.length ≤ 40 := by
 unfold kernelOk machineOk
 simp only [Bool.and_eq_true, allN_iff, decide_eq_true_eq, machOk, beq_iff_eq, and_assoc]
theorem framesOk_iff {f : DFrames} : framesOk f = true ↔ 1 ≤ f.Cells.length ∧ f.Cells.length ≤ 32 ∧ f.Used.length = f.Cells.length ∧ ∀ j, j < f.Cells.length → rowOk (nth f.Cells j) (nth f.Used j) = true := by
 unfold framesOk
 simp only [Bool.and_eq_true, decide_eq_true_eq, List.all_eq_true, and_assoc]
 refine and_congr Iff.rfl (and_congr Iff.rfl (and_congr_right fun hu => ⟨fun h j hj => ?_, fun h q hq => ?_⟩))
 ·exact h _ (List.mem_of_getElem? (zip_get (get_nth hj) (get_nth (by omega))))
 ·obtain ⟨j, hj⟩ := List.mem_iff_getElem?.1 hq
  obtain ⟨h1, h2⟩ := List.getElem?_zip_eq_some.1 hj
  have := h j (List.getElem?_eq_some_iff.1 h1).1
  rwa [nth_of h1, nth_of h2] at this
theorem tableOk_iff {t : DTable} {fr : Int} : tableOk t fr = true ↔ (∀ j, j < t.Entries.length → entOk fr (nth t.Entries j) = true) ∧ 1 ≤ t.Entries.length ∧ t.Entries.length ≤ 32 := by
 unfold tableOk
 simp only [Bool.and_eq_true, allN_iff, decide_eq_true_eq]
theorem pagesOn_pos {t : DTable} {f : Int} : 0 < (pagesOn t f).length ↔ ∃ q, q < t.Entries.length ∧ (nth t.Entries q).Mode ≠ 0 ∧ (nth t.Entries q).Frame = f := by
 unfold pagesOn pgsOn
 rw [List.length_map, List.length_pos_iff_exists_mem]
 simp [onF]
/-- Where a page is mapped. -/
theorem mapped_at {k : DKernel} {p : Int} (h : kernelOk k = true) (hm : (pageEntry k.Machine.Table p).Mode ≠ 0) : 0 ≤ p ∧ p < k.Machine.Table.Entries.length ∧ pageEntry k.Machine.Table p = nth k.Machine.Table.Entries p.toNat ∧ 0 ≤ (pageEntry k.Machine.Table p).Frame ∧ (pageEntry k.Machine.Table p).Frame < k.Machine.Frames.Used.length := by
 obtain ⟨-, -, h3, -⟩ := kernelOk_iff.1 h
 have hp : 0 ≤ p ∧ p < k.Machine.Table.Entries.length := by
  by_cases hp : 0 ≤ p ∧ p < k.Machine.Table.Entries.length
  ·exact hp
  ·unfold pageEntry at hm; rw [if_neg hp] at hm; exact absurd rfl hm
 have he : pageEntry k.Machine.Table p = nth k.Machine.Table.Entries p.toNat := by unfold pageEntry; rw [if_pos hp]
 have := (tableOk_iff.1 h3).1 p.toNat (by omega)
 rw [he] at hm ⊢
 unfold entOk at this
 rw [decide_eq_true_eq] at this
 exact ⟨hp.1, hp.2, rfl, this.2.2.2 hm⟩
theorem kernelOk_unmap {k : DKernel} (p : Int) (h : kernelOk k = true) : kernelOk (unmapK k p) = true := by
 unfold unmapK
 split
 ·exact h
 rename_i hm
 obtain ⟨hp0, hp1, he, hf0, hf1⟩ := mapped_at h hm
 obtain ⟨h1, h2, h3, h4, h5, h6, h7⟩ := kernelOk_iff.1 h
 obtain ⟨g1, g2, g3, g4⟩ := framesOk_iff.1 h2
 obtain ⟨t1, t2, t3⟩ := tableOk_iff.1 h3
 rw [he] at hm hf0 hf1 ⊢
 generalize hfe : (nth k.Machine.Table.Entries p.toNat).Frame = f at hf0 hf1
 have hent : ∀ q, nth (k.Machine.Table.Entries.set p.toNat ⟨0, 0⟩) q = if p.toNat = q then ⟨0, 0⟩ else nth k.Machine.Table.Entries q := fun q => by
  rw [nth_set]
  by_cases hq : p.toNat = q
  ·rw [if_pos ⟨hq, by omega⟩, if_pos hq]
  ·rw [if_neg (fun e => hq e.1), if_neg hq]
 have hpos : ∀ j : Int, 0 < (pagesOn (⟨k.Machine.Table.Entries.set p.toNat ⟨0, 0⟩⟩ : DTable) j).length ↔ ∃ q, q < k.Machine.Table.Entries.length ∧ q ≠ p.toNat ∧ (nth k.Machine.Table.Entries q).Mode ≠ 0 ∧ (nth k.Machine.Table.Entries q).Frame = j := fun j => by
  rw [pagesOn_pos]
  simp only [List.length_set, hent]
  grind
 have hold : ∀ j : Int, 0 < (pagesOn k.Machine.Table j).length ↔ ∃ q, q < k.Machine.Table.Entries.length ∧ (nth k.Machine.Table.Entries q).Mode ≠ 0 ∧ (nth k.Machine.Table.Entries q).Frame = j := fun j => pagesOn_pos
 have htab : tableOk ⟨k.Machine.Table.Entries.set p.toNat ⟨0, 0⟩⟩ k.Machine.Frames.Used.length = true := by
  rw [tableOk_iff]
  simp only [List.length_set, hent]
  refine ⟨fun j hj => ?_, t2, t3⟩
  split
  ·unfold entOk; simp
  ·exact t1 j hj
 unfold dropK
 split
 ·rename_i hz
  rw [kernelOk_iff]
  simp only [clrK, List.length_set] at hz ⊢
  refine ⟨h1, ?_, htab, fun j hj => ?_, h5, h6, h7⟩
  ·rw [framesOk_iff]
   simp only [List.length_set, nth_set]
   refine ⟨g1, g2, g3, fun j hj => ?_⟩
   by_cases hjf : f.toNat = j
   ·rw [if_pos ⟨hjf, hj⟩, if_pos ⟨hjf, by omega⟩]; decide
   ·rw [if_neg (fun e => hjf e.1), if_neg (fun e => hjf e.1)]; exact g4 j hj
  ·rw [nth_set]
   by_cases hjf : f.toNat = j
   ·rw [if_pos ⟨hjf, hj⟩]
    have : (j : Int) = f := by omega
    rw [this]; exact (decide_eq_false fun hh => absurd hz (Nat.ne_of_gt hh)).symm
   ·rw [if_neg (fun e => hjf e.1), h4 j hj]
    refine decide_eq_decide.2 ?_
    rw [hold, hpos]
    grind
 ·rename_i hz
  rw [kernelOk_iff]
  simp only [clrK] at hz ⊢
  refine ⟨h1, h2, htab, fun j hj => ?_, h5, h6, h7⟩
  rw [h4 j hj]
  refine decide_eq_decide.2 ?_
  by_cases hjf : f = j
  ·have h0 : 0 < (pagesOn (⟨k.Machine.Table.Entries.set p.toNat ⟨0, 0⟩⟩ : DTable) j).length := by rw [← hjf]; exact Nat.pos_of_ne_zero hz
   have := (hpos j).1 h0
   constructor
   ·intro _; exact h0
   ·intro _; rw [hold]; grind
  ·rw [hold, hpos]; grind
theorem kernelOk_destr {k : DKernel} (h : kernelOk k = true) : ∀ n, kernelOk (destr k n).1 = true
 | 0 => h
 | n + 1 => by
  unfold destr
  split
  ·exact kernelOk_destr h n
  ·exact kernelOk_unmap _ (kernelOk_destr h n)
theorem kernelOk_sml {k : DKernel} (h : kernelOk k = true) : DKernel.sml k := by
 obtain ⟨h1, h2, h3, h4, h5, h6, h7⟩ := kernelOk_iff.1 h
 obtain ⟨g1, g2, g3, g4⟩ := framesOk_iff.1 h2
 obtain ⟨t1, t2, t3⟩ := tableOk_iff.1 h3
 refine ⟨⟨⟨⟨by omega, fun r hr => ?_⟩, (by omega : _ ≤ 1048576)⟩, ⟨by omega, fun e _ => trivial⟩⟩, (by omega : _ ≤ 1048576)⟩
 obtain ⟨j, hj⟩ := List.mem_iff_getElem?.1 hr
 have := g4 j (List.getElem?_eq_some_iff.1 hj).1
 rw [nth_of hj] at this
 unfold rowOk at this
 simp only [Bool.and_eq_true, decide_eq_true_eq] at this
 show r.length ≤ 1048576
 omega
theorem heapS_kernel {h : DHeap} (hh : heapS h = true) : kernelOk h.Kernel = true := by
 unfold heapS layAll at hh
 simp only [Bool.and_eq_true] at hh
 grind
end Go.Proofs.YtogajjgmcnjkbaaGreat.Ab
/- Copies of kernels, the reference's and the program's. No condition. -/
namespace Go.Proofs.YtogajjgmcnjkbaaGreat.Ab
open Go.RowKit
set_option maxRecDepth 20000
set_option maxHeartbeats 4000000
/-- A copy of rows that hold no slice. -/
theorem Ap.cp {α : Type} {e : α → List C} {xs : List α} {sz by_ : Nat} {K : List (List C) → Prop} (h2 : ∀ x, (e x).length = sz) (h3 : ∀ x, noOwn (e x) = true) (hl : xs.length ≤ 1048576) (hb : by_ ≤ 1000) (hK : K (xs.map e)) : Ap true [] (xs.map e) sz by_ K :=
 Ap.mk (fun r hr => by cases hr) (fun r hr => by obtain ⟨y, -, rfl⟩ := List.mem_map.1 hr; exact h2 y) (fun _ r hr => by obtain ⟨y, -, rfl⟩ := List.mem_map.1 hr; exact h3 y) (by simp; omega) (by simp only [List.length_map, List.length_nil, Nat.zero_add]; exact mkB hl hb) rfl hK
theorem Fl.cp {α : Type} {e : α → List C} {xs : List α} {sz by_ : Nat} {X : Prop} (h2 : ∀ x, (e x).length = sz) (h3 : ∀ x, noOwn (e x) = true) (hl : xs.length ≤ 1048576) (hb : by_ ≤ 1000) (hK : X) : Fl (xs.map e) sz by_ X :=
 Fl.mk (fun r hr => by obtain ⟨y, -, rfl⟩ := List.mem_map.1 hr; exact ⟨h2 y, h3 y⟩) (by simp; omega) (by simp only [List.length_map]; exact mkB hl hb) hK
/-- One more row at the end. -/
theorem Ap.sn {rows rs : List (List C)} {r : List C} {sz by_ : Nat} {K : List (List C) → Prop} (h1 : ∀ r ∈ rows, r.length = sz) (h2 : r.length = sz) (hl : rows.length + 1 ≤ 1048576) (hb : by_ ≤ 1000) (hr : rs = rows ++ [r]) (hK : K rs) : Ap false rows [r] sz by_ K :=
 Ap.mk h1 (fun r' hr => by rw [List.mem_singleton.1 hr]; exact h2) (fun h => by cases h) (by simp; omega) (mkB (by simpa using hl) hb) hr hK
theorem copyInts_impl (xs : List Int) (hl : xs.length ≤ 1048576) : CallsA Tryz.prog 246 false [.val none (rIntS .imm xs)] .one (rIntS .own xs) := by
 refine fO (n := 6) [] Tryz.func246 (by kernel_rfl) rfl (by kernel_rfl) (by rfl) (.inr (rIntS_fr _)) ?_
 repeat' ((conv=>whnf);first|with_reducible (first|refine Lm ?_|refine Wm (by omega) ?_|refine Bn ?_|refine Fm rfl ?_)|refine Bt ?_|refine Bu ?_|refine Ap.cp (fun _ => rfl) (fun _ => rfl) hl (by decide) ?_)
 rfl
theorem l06Copy_spec (t : DTable) (hs : DTable.sml t) : CallsA Tryz.prog 299 false [.val (some 1) (DTable.enc .imm t)] .agg (DTable.enc .own t) := by
 have hl := hs.1
 refine fO (n := 8) [] Tryz.func299 (by kernel_rfl) rfl (by kernel_rfl) (by rfl) (.inr (DTable.enc_fr _)) ?_
 repeat' ((conv=>whnf);first|with_reducible (first|refine Lm ?_|refine Wm (by omega) ?_|refine Bn ?_|refine Fm rfl ?_)|refine Bt ?_|refine Bu ?_|refine Ap.cp (fun _ => rfl) (fun _ => rfl) hl (by decide) ?_)
 rfl
theorem copyTable_impl (t : DTable) (hs : DTable.sml t) : CallsA Tryz.prog 319 false [.val (some 1) (DTable.enc .imm t)] .agg (DTable.enc .own t) := by
 have hl := hs.1
 refine fO (n := 8) [] Tryz.func319 (by kernel_rfl) rfl (by kernel_rfl) (by rfl) (.inr (DTable.enc_fr _)) ?_
 repeat' ((conv=>whnf);first|with_reducible (first|refine Lm ?_|refine Wm (by omega) ?_|refine Bn ?_|refine Fm rfl ?_)|refine Bt ?_|refine Bu ?_|refine Ap.cp (fun _ => rfl) (fun _ => rfl) hl (by decide) ?_)
 rfl
theorem map_one {α : Type} {e : α → List C} {l : List α} {n : Nat} (h : ∀ x, (e x).length = n) : ∀ r ∈ l.map e, r.length = n := fun r hr => by
 obtain ⟨y, -, rfl⟩ := List.mem_map.1 hr; exact h y
theorem rows_snoc {α β : Type} [Inhabited α] {xs : List α} {f : α → β} {i : Nat} (hi : i < xs.length) : (xs.take (i + 1)).map f = (xs.take i).map f ++ [f (nth xs i)] := by
 rw [List.take_add_one, get_nth hi]; simp
theorem l05Copy_spec (f : DFrames) (hs : DFrames.sml f) : CallsA Tryz.prog 298 false [.val (some 2) (DFrames.enc .imm f)] .agg (DFrames.enc .own f) := by
 have hl := hs.1.1
 have hu : f.Used.length ≤ 1048576 := hs.2
 refine fO (n := 30) [(5,10,[17,18,19,20,21,22,23,24,25,26])] Tryz.func298 (by kernel_rfl) rfl (by kernel_rfl) (by rfl) (.inr (DFrames.enc_fr _)) ?_
 repeat' ((conv=>whnf);first|with_reducible (first|refine Lm ?_|refine Wm (by omega) ?_|refine Bn ?_|refine Fm rfl ?_)|refine Bt ?_|refine Bu ?_|refine Ap.cp (fun _ => rfl) (fun _ => rfl) hu (by decide) ?_)
 (conv=>whnf)
 refine Lp.mk (ι := Nat) (fun i => [(1, .hold .box (DFrames.enc .imm f)), (2, .hold .box [.z, .z]), (3, .hold .box [.s .own ((f.Cells.take i).map (rIntS .own)), .s .own (f.Used.map (rB .own))]), (4, .hold .one [I ((i : Nat) : Int)])]) (fun i => i ≤ f.Cells.length) (fun i => f.Cells.length - i) (0) ?_ (Nat.zero_le _) fun i hi => ?_
 ·repeat' (first|exact trivial|rfl|refine And.intro ?_ ?_|(exact wkI (by first|omega|(simp only; omega)|(simp; omega))))
 by_cases li : i < f.Cells.length
 ·have hx := get_nth li
  have hxl : (nth f.Cells i).length ≤ 1048576 := hs.1.2 _ (nth_mem li)
  repeat' ((conv=>whnf);first|with_reducible (first|refine Lm ?_|refine Wm (by omega) ?_|refine Ix.nat (get_map hx) ?_|refine dT (by omega) (fun hq => ?_)|refine Bn ?_|refine Fm rfl ?_)|refine Bt ?_|refine Bu ?_|refine Fl.cp (fun _ => rfl) (fun _ => rfl) hxl (by decide) ?_|refine Ap.sn (map_one fun _ => rfl) rfl (by simp; omega) (by decide) (rows_snoc li) ?_)
  ((conv=>whnf);refine Nx.mk (i + 1) (by omega) (by omega) ?_; (repeat' (first|exact trivial|rfl|refine And.intro ?_ ?_|(exact wkI (by first|omega|(simp only; omega)|(simp; omega))))))
 ·repeat' ((conv=>whnf);first|with_reducible (first|refine Lm ?_|refine Wm (by omega) ?_|refine dF (by omega) (fun hq => ?_)|refine Bn ?_|refine Fm rfl ?_)|refine Bt ?_|refine Bu ?_)
  obtain rfl : i = f.Cells.length := by omega
  rw [List.take_length]
  rfl
theorem copyFrames_impl (f : DFrames) (hs : DFrames.sml f) : CallsA Tryz.prog 318 false [.val (some 2) (DFrames.enc .imm f)] .agg (DFrames.enc .own f) := by
 have hl := hs.1.1
 have hu : f.Used.length ≤ 1048576 := hs.2
 refine fO (n := 27) [(5,5,[18,19,20,21,22])] Tryz.func318 (by kernel_rfl) rfl (by kernel_rfl) (by rfl) (.inr (DFrames.enc_fr _)) ?_
 repeat' ((conv=>whnf);first|with_reducible (first|refine Lm ?_|refine Wm (by omega) ?_|refine Bn ?_|refine Fm rfl ?_)|refine Bt ?_|refine Bu ?_|refine Ap.cp (fun _ => rfl) (fun _ => rfl) hu (by decide) ?_)
 (conv=>whnf)
 refine Lp.mk (ι := Nat) (fun i => [(2, .hold .box [.z, .z]), (3, .hold .box [.s .own ((f.Cells.take i).map (rIntS .own)), .s .own (f.Used.map (rB .own))]), (12, .hold .one (rIntSS .imm f.Cells)), (13, .hold .one [I (f.Cells.length)]), (14, .hold .one [I ((i : Nat) : Int)])]) (fun i => i ≤ f.Cells.length) (fun i => f.Cells.length - i) (0) ?_ (Nat.zero_le _) fun i hi => ?_
 ·repeat' (first|exact trivial|rfl|refine And.intro ?_ ?_|(exact wkI (by first|omega|(simp only; omega)|(simp; omega))))
 by_cases li : i < f.Cells.length
 ·have hx := get_nth li
  have hxl : (nth f.Cells i).length ≤ 1048576 := hs.1.2 _ (nth_mem li)
  repeat' ((conv=>whnf);first|with_reducible (first|refine Lm ?_|refine Wm (by omega) ?_|refine Ix.nat (get_map hx) ?_|refine dT (by omega) (fun hq => ?_)|refine Bn ?_|refine Fm rfl ?_)|refine Bt ?_|refine Bu ?_|refine Cl.mk (copyInts_impl (nth f.Cells i) hxl) ?_|refine Ap.sn (map_one fun _ => rfl) rfl (by simp; omega) (by decide) (rows_snoc li) ?_)
  ((conv=>whnf);refine Nx.mk (i + 1) (by omega) (by omega) ?_; (repeat' (first|exact trivial|rfl|refine And.intro ?_ ?_|(exact wkI (by first|omega|(simp only; omega)|(simp; omega))))))
 ·repeat' ((conv=>whnf);first|with_reducible (first|refine Lm ?_|refine Wm (by omega) ?_|refine dF (by omega) (fun hq => ?_)|refine Bn ?_|refine Fm rfl ?_)|refine Bt ?_|refine Bu ?_)
  obtain rfl : i = f.Cells.length := by omega
  rw [List.take_length]
  rfl
theorem l07Copy_spec (m : DMachine) (hs : DMachine.sml m) : CallsA Tryz.prog 217 false [.val (some 3) (DMachine.enc .imm m)] .agg (DMachine.enc .own m) := by
 refine fO (n := 10) [(1,5,[3,4,5,6,7])] Tryz.func217 (by kernel_rfl) rfl (by kernel_rfl) (by rfl) (.inr (DMachine.enc_fr _)) ?_
 repeat' ((conv=>whnf);first|with_reducible (first|refine Lm ?_|refine Wm (by omega) ?_|refine Bn ?_|refine Fm rfl ?_)|refine Bt ?_|refine Bu ?_|refine Cl.mk (l05Copy_spec m.Frames hs.1) ?_|refine Cl.mk (l06Copy_spec m.Table hs.2) ?_)
 rfl
theorem copyMachine_impl (m : DMachine) (hs : DMachine.sml m) : CallsA Tryz.prog 245 false [.val (some 3) (DMachine.enc .imm m)] .agg (DMachine.enc .own m) := by
 refine fO (n := 10) [(1,5,[3,4,5,6,7])] Tryz.func245 (by kernel_rfl) rfl (by kernel_rfl) (by rfl) (.inr (DMachine.enc_fr _)) ?_
 repeat' ((conv=>whnf);first|with_reducible (first|refine Lm ?_|refine Wm (by omega) ?_|refine Bn ?_|refine Fm rfl ?_)|refine Bt ?_|refine Bu ?_|refine Cl.mk (copyFrames_impl m.Frames hs.1) ?_|refine Cl.mk (copyTable_impl m.Table hs.2) ?_)
 rfl
theorem l08Copy_spec (k : DKernel) (hs : DKernel.sml k) : CallsA Tryz.prog 102 false [.val (some 5) (DKernel.enc .imm k)] .agg (DKernel.enc .own k) := by
 have hr : k.Refuse.length ≤ 1048576 := hs.2
 refine fO (n := 13) [(1,9,[3,4,5,6,7,8,9,10,11])] Tryz.func102 (by kernel_rfl) rfl (by kernel_rfl) (by rfl) (.inr (DKernel.enc_fr _)) ?_
 repeat' ((conv=>whnf);first|with_reducible (first|refine Lm ?_|refine Wm (by omega) ?_|refine Bn ?_|refine Fm rfl ?_)|refine Bt ?_|refine Bu ?_|refine Cl.mk (l07Copy_spec k.Machine hs.1) ?_|refine Fl.cp (fun _ => rfl) (fun _ => rfl) hr (by decide) ?_)
 rfl
theorem copyKernel_impl (k : DKernel) (hs : DKernel.sml k) : CallsA Tryz.prog 131 false [.val (some 5) (DKernel.enc .imm k)] .agg (DKernel.enc .own k) := by
 refine fO (n := 12) [(1,8,[3,4,5,6,7,8,9,10])] Tryz.func131 (by kernel_rfl) rfl (by kernel_rfl) (by rfl) (.inr (DKernel.enc_fr _)) ?_
 repeat' ((conv=>whnf);first|with_reducible (first|refine Lm ?_|refine Wm (by omega) ?_|refine Bn ?_|refine Fm rfl ?_)|refine Bt ?_|refine Bu ?_|refine Cl.mk (copyMachine_impl k.Machine hs.1) ?_|refine Cl.mk (copyInts_impl k.Refuse hs.2) ?_)
 rfl
end Go.Proofs.YtogajjgmcnjkbaaGreat.Ab
/- Pages given back: the reference's and the program's functions. No condition. -/
namespace Go.Proofs.YtogajjgmcnjkbaaGreat.Ab
open Go.RowKit
set_option maxRecDepth 20000
set_option maxHeartbeats 4000000
theorem l08Mode_spec (k : DKernel) (p : Int) (hs : DTable.sml k.Machine.Table) : CallsA Tryz.prog 218 false [.ptr (DKernel.enc .imm k), .val none [I p]] .one [I (pageEntry k.Machine.Table p).Mode] := by
 refine fO (n := 13) [] Tryz.func218 (by kernel_rfl) rfl (by kernel_rfl) (by rfl) (.inr ⟨trivial, trivial⟩) ?_
 repeat' ((conv=>whnf);first|with_reducible (first|refine Lm ?_|refine Wm (by omega) ?_|refine Bn ?_|refine Fm rfl ?_)|refine Bt ?_|refine Bu ?_|refine Cl.mk (PageEntry_spec k.Machine.Table p hs) ?_)
 rfl
theorem l08May_spec (k : DKernel) (hs : DKernel.sml k) : CallsA Tryz.prog 27 false [.val (some 5) (DKernel.enc .imm k)] .one [B (kernelOk k && decide (k.Calls < 100000))] := by
 have h1 := KernelOk_spec k hs
 cases e : kernelOk k <;> rw [e] at h1
 ·refine fO (n := 10) [] Tryz.func27 (by kernel_rfl) rfl (by kernel_rfl) (by rfl) (.inr ⟨trivial, trivial⟩) ?_
  repeat' ((conv=>whnf);first|with_reducible (first|refine Lm ?_|refine Wm (by omega) ?_|refine Bf.D (fun hq => ?_) (fun hq => ?_)|refine Bn ?_|refine Fm rfl ?_)|refine Bt ?_|refine Bu ?_|refine Cl.mk (h1) ?_)
  all_goals rfl
 ·refine fO (n := 10) [] Tryz.func27 (by kernel_rfl) rfl (by kernel_rfl) (by rfl) (.inr ⟨trivial, trivial⟩) ?_
  repeat' ((conv=>whnf);first|with_reducible (first|refine Lm ?_|refine Wm (by omega) ?_|refine Bn ?_|refine Fm rfl ?_)|refine Bt ?_|refine Bu ?_|refine Cl.mk (h1) ?_)
  all_goals rfl
theorem canCall_impl (k : DKernel) (hs : DKernel.sml k) : CallsA Tryz.prog 248 false [.val (some 5) (DKernel.enc .imm k)] .one [B (decide (k.Calls ≠ 100000) && kernelOk k)] := by
 have h1 := KernelOk_impl k hs
 refine fO (n := 10) [] Tryz.func248 (by kernel_rfl) rfl (by kernel_rfl) (by rfl) (.inr ⟨trivial, trivial⟩) ?_
 repeat' ((conv=>whnf);first|with_reducible (first|refine Lm ?_|refine Wm (by omega) ?_|refine Bf.N (fun hq => ?_) (fun hq => ?_)|refine Bf.D (fun hq => ?_) (fun hq => ?_)|refine Bn ?_|refine Fm rfl ?_)|refine Bt ?_|refine Bu ?_|refine Cl.mk (h1) ?_)
 all_goals (exact congrArg (fun z => [B z]) ((by simp [*])))
theorem dropK_yes {k : DKernel} {f : Int} (h : (pagesOn k.Machine.Table f).length = 0) : DKernel.enc .own (dropK k f) = [.s .own ((k.Machine.Frames.Cells.map (rIntS .own)).set f.toNat (rIntS .own (List.replicate 16 0))), .s .own ((k.Machine.Frames.Used.map (rB .own)).set f.toNat (rB .own false)), .s .own (k.Machine.Table.Entries.map (DEntry.enc .own)), I k.Calls, .s .own (k.Refuse.map (rI .own))] := by
 unfold dropK; rw [if_pos h]; simp only [DKernel.enc, List.map_set]
theorem dropK_no {k : DKernel} {f : Int} (h : ¬ (pagesOn k.Machine.Table f).length = 0) : DKernel.enc .own (dropK k f) = DKernel.enc .own k := by
 unfold dropK; rw [if_neg h]
theorem l08Drop_spec (k : DKernel) (f : Int) (hs : DTable.sml k.Machine.Table) (hf : 0 ≤ f ∧ f < k.Machine.Frames.Cells.length ∧ f < k.Machine.Frames.Used.length) :
  CallsM Tryz.prog 219 false [.ptr (DKernel.enc .own k), .val none [I f]] [.ptr (DKernel.enc .own (dropK k f)), .val none [I f]] (.tup []) [] := by
 have h1 := get_nth (xs := k.Machine.Frames.Cells) (i := f.toNat) (by omega)
 have h2 := get_nth (xs := k.Machine.Frames.Used) (i := f.toNat) (by omega)
 by_cases hz : (pagesOn k.Machine.Table f).length = 0
 ·rw [dropK_yes hz]
  refine fnMOk (n := 30) (mo := []) (tb := [(2,8,[21,22,23,24,25,26,27,28])]) [(0, 0), (0, 0)] Tryz.func219 (by kernel_rfl) rfl (by kernel_rfl) (by rfl) (by rfl) (.inr trivial) fun u q => ?_
  repeat' ((conv=>whnf);first|with_reducible (first|refine Lm ?_|refine Wm (by omega) ?_|refine eT (by omega) (fun hq => ?_)|refine Ix.mk hf.1 (get_map h2) ?_|refine Ix.mk hf.1 (get_map h1) ?_|refine Bn ?_|refine Fm rfl ?_)|refine Bt ?_|refine Bu ?_|refine Cl.eq (PagesOn_spec k.Machine.Table f hs) ⟨⟨rfl, DTable.enc_fz k.Machine.Table⟩, ⟨rfl, rfl⟩, trivial⟩ ?_|refine Pu.one rfl rfl (get_map h1) rfl (Nat.le_of_ble_eq_true rfl) rfl ?_|refine Pu.one rfl rfl (get_map h2) rfl (Nat.le_of_ble_eq_true rfl) rfl ?_|refine Mk.mk 16 rfl rfl (by decide) (by decide) rfl ?_)
  refine FinM.mk rfl rfl ?_
  repeat' (first|exact trivial|rfl|refine And.intro ?_ ?_|(exact wkI (by first|omega|(simp only; omega)|(simp; omega))))
 ·rw [dropK_no hz]
  refine fnMOk (n := 30) (mo := []) (tb := [(2,8,[21,22,23,24,25,26,27,28])]) [(0, 0), (0, 0)] Tryz.func219 (by kernel_rfl) rfl (by kernel_rfl) (by rfl) (by rfl) (.inr trivial) fun u q => ?_
  repeat' ((conv=>whnf);first|with_reducible (first|refine Lm ?_|refine Wm (by omega) ?_|refine eF (by omega) (fun hq => ?_)|refine Bn ?_|refine Fm rfl ?_)|refine Bt ?_|refine Bu ?_|refine Cl.eq (PagesOn_spec k.Machine.Table f hs) ⟨⟨rfl, DTable.enc_fz k.Machine.Table⟩, ⟨rfl, rfl⟩, trivial⟩ ?_)
  refine FinM.mk rfl rfl ?_
  repeat' (first|exact trivial|rfl|refine And.intro ?_ ?_|(exact wkI (by first|omega|(simp only; omega)|(simp; omega))))
theorem release_impl (k : DKernel) (f : Int) (hs : DTable.sml k.Machine.Table) (hf : 0 ≤ f ∧ f < k.Machine.Frames.Cells.length ∧ f < k.Machine.Frames.Used.length) :
  CallsM Tryz.prog 249 false [.ptr (DKernel.enc .own k), .val none [I f]] [.ptr (DKernel.enc .own (dropK k f)), .val none [I f]] (.tup []) [] := by
 have h1 := get_nth (xs := k.Machine.Frames.Cells) (i := f.toNat) (by omega)
 have h2 := get_nth (xs := k.Machine.Frames.Used) (i := f.toNat) (by omega)
 by_cases hz : (pagesOn k.Machine.Table f).length = 0
 ·rw [dropK_yes hz]
  refine fnMOk (n := 30) (mo := []) (tb := [(2,8,[21,22,23,24,25,26,27,28])]) [(0, 0), (0, 0)] Tryz.func249 (by kernel_rfl) rfl (by kernel_rfl) (by rfl) (by rfl) (.inr trivial) fun u q => ?_
  repeat' ((conv=>whnf);first|with_reducible (first|refine Lm ?_|refine Wm (by omega) ?_|refine eT (by omega) (fun hq => ?_)|refine Ix.mk hf.1 (get_map h2) ?_|refine Ix.mk hf.1 (get_map h1) ?_|refine Bn ?_|refine Fm rfl ?_)|refine Bt ?_|refine Bu ?_|refine Cl.eq (PagesOn_impl k.Machine.Table f hs) ⟨⟨rfl, DTable.enc_fz k.Machine.Table⟩, ⟨rfl, rfl⟩, trivial⟩ ?_|refine Pu.one rfl rfl (get_map h1) rfl (Nat.le_of_ble_eq_true rfl) rfl ?_|refine Pu.one rfl rfl (get_map h2) rfl (Nat.le_of_ble_eq_true rfl) rfl ?_|refine Mk.mk 16 rfl rfl (by decide) (by decide) rfl ?_)
  refine FinM.mk rfl rfl ?_
  repeat' (first|exact trivial|rfl|refine And.intro ?_ ?_|(exact wkI (by first|omega|(simp only; omega)|(simp; omega))))
 ·rw [dropK_no hz]
  refine fnMOk (n := 30) (mo := []) (tb := [(2,8,[21,22,23,24,25,26,27,28])]) [(0, 0), (0, 0)] Tryz.func249 (by kernel_rfl) rfl (by kernel_rfl) (by rfl) (by rfl) (.inr trivial) fun u q => ?_
  repeat' ((conv=>whnf);first|with_reducible (first|refine Lm ?_|refine Wm (by omega) ?_|refine eF (by omega) (fun hq => ?_)|refine Bn ?_|refine Fm rfl ?_)|refine Bt ?_|refine Bu ?_|refine Cl.eq (PagesOn_impl k.Machine.Table f hs) ⟨⟨rfl, DTable.enc_fz k.Machine.Table⟩, ⟨rfl, rfl⟩, trivial⟩ ?_)
  refine FinM.mk rfl rfl ?_
  repeat' (first|exact trivial|rfl|refine And.intro ?_ ?_|(exact wkI (by first|omega|(simp only; omega)|(simp; omega))))
end Go.Proofs.YtogajjgmcnjkbaaGreat.Ab
/- A page given back: the reference's and the program's functions. No condition. -/
namespace Go.Proofs.YtogajjgmcnjkbaaGreat.Ab
open Go.RowKit
set_option maxRecDepth 20000
set_option maxHeartbeats 4000000
theorem clrK_enc (k : DKernel) (p : Int) : DKernel.enc .own (clrK k p) = [.s .own (k.Machine.Frames.Cells.map (rIntS .own)), .s .own (k.Machine.Frames.Used.map (rB .own)), .s .own ((k.Machine.Table.Entries.map (DEntry.enc .own)).set p.toNat (DEntry.enc .own ⟨0, 0⟩)), I k.Calls, .s .own (k.Refuse.map (rI .own))] := by
 unfold clrK; simp only [DKernel.enc, List.map_set]
theorem clrK_sml {k : DKernel} {p : Int} (h : kernelOk k = true) : DTable.sml (clrK k p).Machine.Table := by
 obtain ⟨t1, t2, t3⟩ := tableOk_iff.1 (kernelOk_iff.1 h).2.2.1
 exact ⟨by simp only [clrK, List.length_set]; omega, fun _ _ => trivial⟩
theorem l08Unmap_spec (k : DKernel) (p : Int) (hk : kernelOk k = true) :
  CallsM Tryz.prog 107 false [.ptr (DKernel.enc .own k), .val none [I p]] [.ptr (DKernel.enc .own (unmapK k p)), .val none [I p]] .one [B (decide ((pageEntry k.Machine.Table p).Mode ≠ 0))] := by
 have hs := kernelOk_sml hk
 have c1 := l08Mode_spec k p hs.1.2
 by_cases hm : (pageEntry k.Machine.Table p).Mode = 0
 ·rw [show unmapK k p = k by unfold unmapK; rw [if_pos hm]]
  refine fnMOk (n := 32) (mo := [(219, [2, 0])]) (tb := []) [(0, 0), (0, 0)] Tryz.func107 (by kernel_rfl) rfl (by kernel_rfl) (by rfl) (by rfl) (.inr ⟨trivial, trivial⟩) fun u q => ?_
  repeat' ((conv=>whnf);first|with_reducible (first|refine Lm ?_|refine Wm (by omega) ?_|refine eT (by omega) (fun hq => ?_)|refine Bn ?_|refine Fm rfl ?_)|refine Bt ?_|refine Bu ?_|refine Cl.eq (c1) ⟨DKernel.enc_fz k, ⟨rfl, rfl⟩, trivial⟩ ?_)
  refine FinM.mk rfl ?_ ?_
  ·exact congrArg (fun z => [B z]) ((by simp [hm]))
  ·repeat' (first|exact trivial|rfl|refine And.intro ?_ ?_|(exact wkI (by first|omega|(simp only; omega)|(simp; omega))))
 ·obtain ⟨h0, h1, he, hf0, hf1⟩ := mapped_at hk hm
  have hlen := (framesOk_iff.1 (kernelOk_iff.1 hk).2.1).2.2.1
  rw [show unmapK k p = dropK (clrK k p) (pageEntry k.Machine.Table p).Frame by unfold unmapK; rw [if_neg hm]]
  have c2 := l08Drop_spec (clrK k p) (pageEntry k.Machine.Table p).Frame (clrK_sml hk) ⟨hf0, by simp only [clrK]; omega, by simp only [clrK]; omega⟩
  rw [clrK_enc] at c2
  have hx := get_nth (xs := k.Machine.Table.Entries) (i := p.toNat) (by omega)
  rw [he] at c1 c2 hm ⊢
  refine fnMOk (n := 32) (mo := [(219, [2, 0])]) (tb := []) [(0, 0), (0, 0)] Tryz.func107 (by kernel_rfl) rfl (by kernel_rfl) (by rfl) (by rfl) (.inr ⟨trivial, trivial⟩) fun u q => ?_
  repeat' ((conv=>whnf);first|with_reducible (first|refine Lm ?_|refine Wm (by omega) ?_|refine eF (by omega) (fun hq => ?_)|refine Ix.mk h0 (get_map hx) ?_|refine Bn ?_|refine Fm rfl ?_)|refine Bt ?_|refine Bu ?_|refine Cl.eq (c1) ⟨DKernel.enc_fz k, ⟨rfl, rfl⟩, trivial⟩ ?_|refine Pu.one rfl rfl (get_map hx) rfl (Nat.le_of_ble_eq_true rfl) rfl ?_|refine Rw.one rfl (get_map hx) rfl ?_|refine ClM.mk (c2) (.inl rfl) ?_)
  refine FinM.mk rfl ?_ ?_
  ·exact congrArg (fun z => [B z]) ((by simp [hm]))
  ·repeat' (first|exact trivial|rfl|refine And.intro ?_ ?_|(exact wkI (by first|omega|(simp only; omega)|(simp; omega))))
theorem KUnmap_impl (k : DKernel) (p : Int) (hk : kernelOk k = true) (hc : k.Calls ≠ 100000) :
  CallsA Tryz.prog 137 false [.val (some 5) (DKernel.enc .imm k), .val none [I p]] (.tup [some 5, none]) (DKernel.enc .own (unmapK k p) ++ [B (decide ((pageEntry k.Machine.Table p).Mode ≠ 0))]) := by
 have hs := kernelOk_sml hk
 have c1 := copyKernel_impl k hs
 have c2 := canCall_impl k hs
 have c3 := mapped_impl k p hs.1.2
 rw [hk, decide_eq_true hc] at c2
 by_cases hm : (pageEntry k.Machine.Table p).Mode = 0
 ·rw [show unmapK k p = k by unfold unmapK; rw [if_pos hm]]
  rw [decide_eq_false (by simpa using hm)] at c3 ⊢
  refine fnOk (n := 38) (mo := [(249, [2, 0])]) (tb := []) Tryz.func137 (by kernel_rfl) rfl (by kernel_rfl) (by rfl) (.inr (frL_append (DKernel.enc_fr k) ⟨trivial, trivial⟩)) ?_
  repeat' ((conv=>whnf);first|with_reducible (first|refine Lm ?_|refine Wm (by omega) ?_|refine Bn ?_|refine Fm rfl ?_)|refine Bt ?_|refine Bu ?_|refine Cl.mk (c1) ?_|refine Cl.mk (c2) ?_|refine Cl.mk (c3) ?_)
  all_goals rfl
 ·obtain ⟨h0, h1, he, hf0, hf1⟩ := mapped_at hk hm
  have hlen := (framesOk_iff.1 (kernelOk_iff.1 hk).2.1).2.2.1
  rw [show unmapK k p = dropK (clrK k p) (pageEntry k.Machine.Table p).Frame by unfold unmapK; rw [if_neg hm]]
  have c4 := release_impl (clrK k p) (pageEntry k.Machine.Table p).Frame (clrK_sml hk) ⟨hf0, by simp only [clrK]; omega, by simp only [clrK]; omega⟩
  rw [clrK_enc] at c4
  have hx := get_nth (xs := k.Machine.Table.Entries) (i := p.toNat) (by omega)
  rw [decide_eq_true hm] at c3 ⊢
  rw [he] at c4 ⊢
  refine fnOk (n := 38) (mo := [(249, [2, 0])]) (tb := []) Tryz.func137 (by kernel_rfl) rfl (by kernel_rfl) (by rfl) (.inr (frL_append (DKernel.enc_fr _) ⟨trivial, trivial⟩)) ?_
  repeat' ((conv=>whnf);first|with_reducible (first|refine Lm ?_|refine Wm (by omega) ?_|refine Ix.mk h0 (get_map hx) ?_|refine Bn ?_|refine Fm rfl ?_)|refine Bt ?_|refine Bu ?_|refine Cl.mk (c1) ?_|refine Cl.mk (c2) ?_|refine Cl.mk (c3) ?_|refine Pu.one rfl rfl (get_map hx) rfl (Nat.le_of_ble_eq_true rfl) rfl ?_|refine Rw.one rfl (get_map hx) rfl ?_|refine ClM.mk (c4) (.inl rfl) ?_)
  all_goals rfl
theorem destr_yes {k : DKernel} {n : Nat} (h : (pageEntry (destr k n).1.Machine.Table n).Mode ≠ 0) : destr k (n + 1) = (unmapK (destr k n).1 n, (destr k n).2 + 1) := by
 rw [destr, if_neg h]
theorem destr_no {k : DKernel} {n : Nat} (h : (pageEntry (destr k n).1.Machine.Table n).Mode = 0) : destr k (n + 1) = destr k n := by
 rw [destr, if_pos h]
theorem unmapK_no {k : DKernel} {n : Int} (h : (pageEntry k.Machine.Table n).Mode = 0) : unmapK k n = k := by
 unfold unmapK; rw [if_pos h]
theorem HeapDestroy_spec (h : DHeap) (hs : DHeap.sml h) (hw : DHeap.wf h) : CallsA Tryz.prog 29 false [.val (some 24) (DHeap.enc .imm h)] (.tup [some 5, none]) (DKernel.enc .own (destroyed h).1 ++ [I (destroyed h).2]) := by
 have c1 := HeapOk_spec h hs hw
 have c2 := l08Copy_spec h.Kernel hs.1
 have c3 := l08May_spec h.Kernel hs.1
 cases e1 : heapS h <;> rw [e1] at c1
 ·rw [show destroyed h = (h.Kernel, 0) by unfold destroyed; rw [if_neg (by simp [e1])]]
  refine fnOk (n := 35) (mo := [(107, [2, 0])]) (tb := []) Tryz.func29 (by kernel_rfl) rfl (by kernel_rfl) (by rfl) (.inr (frL_append (DKernel.enc_fr _) ⟨trivial, trivial⟩)) ?_
  repeat' ((conv=>whnf);first|with_reducible (first|refine Lm ?_|refine Wm (by omega) ?_|refine Bn ?_|refine Fm rfl ?_)|refine Bt ?_|refine Bu ?_|refine Cl.mk (c1) ?_|refine Cl.mk (c2) ?_)
  all_goals rfl
 ·have hk := heapS_kernel e1
  rw [hk] at c3
  have hcl := (kernelOk_iff.1 hk).2.2.2.2
  by_cases hc : h.Kernel.Calls < 100000
  ·rw [decide_eq_true hc] at c3
   rw [show destroyed h = destr h.Kernel h.Kernel.Machine.Table.Entries.length by unfold destroyed; rw [if_pos ⟨e1, by omega⟩]]
   refine fnOk (n := 35) (mo := [(107, [2, 0])]) (tb := []) Tryz.func29 (by kernel_rfl) rfl (by kernel_rfl) (by rfl) (.inr (frL_append (DKernel.enc_fr _) ⟨trivial, trivial⟩)) ?_
   repeat' ((conv=>whnf);first|with_reducible (first|refine Lm ?_|refine Wm (by omega) ?_|refine Bn ?_|refine Fm rfl ?_)|refine Bt ?_|refine Bu ?_|refine Cl.mk (c1) ?_|refine Cl.mk (c2) ?_|refine Cl.mk (c3) ?_)
   (conv=>whnf)
   refine Lp.mk (ι := Nat) (fun i => [(4, .hold .box (DKernel.enc .own (destr h.Kernel i).1)), (2, .hold .box [.z, .z, .z, I 0, .z]), (3, .hold .one [I (0)]), (5, .hold .one [I ((destr h.Kernel i).2)]), (6, .hold .one [I ((i : Nat) : Int)])]) (fun i => i ≤ h.Kernel.Machine.Table.Entries.length) (fun i => h.Kernel.Machine.Table.Entries.length - i) (0) ?_ (Nat.zero_le _) fun i hi => ?_
   ·repeat' (first|exact trivial|rfl|refine And.intro ?_ ?_|(exact wkI (by first|omega|(simp only; omega)|(simp; omega))))
   obtain ⟨l1, l2, l3, l4, l5⟩ := destr_len h.Kernel i
   have hlen : h.Kernel.Machine.Table.Entries.length ≤ 1048576 := hs.1.1.2.1
   by_cases li : i < h.Kernel.Machine.Table.Entries.length
   ·have c4 := l08Unmap_spec (destr h.Kernel i).1 i (kernelOk_destr hk i)
    by_cases hm : (pageEntry (destr h.Kernel i).1.Machine.Table i).Mode = 0
    ·rw [decide_eq_false (by simpa using hm), unmapK_no hm] at c4
     have hd := destr_no hm
     repeat' ((conv=>whnf);first|with_reducible (first|refine Lm ?_|refine Wm (by omega) ?_|refine dT (by omega) (fun hq => ?_)|refine Bn ?_|refine Fm rfl ?_)|refine Bt ?_|refine Bu ?_|refine ClM.mk (c4) (.inl rfl) ?_)
     (conv=>whnf)
     refine Nx.mk (i + 1) (by omega) (by omega) ?_
     rw [hd]
     repeat' (first|exact trivial|rfl|refine And.intro ?_ ?_|(exact wkI (by first|omega|(simp only; omega)|(simp; omega))))
    ·rw [decide_eq_true hm] at c4
     have hd := destr_yes hm
     repeat' ((conv=>whnf);first|with_reducible (first|refine Lm ?_|refine Wm (by omega) ?_|refine dT (by omega) (fun hq => ?_)|refine Bn ?_|refine Fm rfl ?_)|refine Bt ?_|refine Bu ?_|refine ClM.mk (c4) (.inl rfl) ?_)
     (conv=>whnf)
     refine Nx.mk (i + 1) (by omega) (by omega) ?_
     rw [hd]
     repeat' (first|exact trivial|rfl|refine And.intro ?_ ?_|(exact wkI (by first|omega|(simp only; omega)|(simp; omega))))
   ·obtain rfl : i = h.Kernel.Machine.Table.Entries.length := by omega
    repeat' ((conv=>whnf);first|with_reducible (first|refine Lm ?_|refine Wm (by omega) ?_|refine dF (by omega) (fun hq => ?_)|refine Bn ?_|refine Fm rfl ?_)|refine Bt ?_|refine Bu ?_)
    rfl
  ·rw [decide_eq_false hc] at c3
   rw [show destroyed h = (h.Kernel, 0) by unfold destroyed; rw [if_neg (fun e => e.2 (by omega))]]
   refine fnOk (n := 35) (mo := [(107, [2, 0])]) (tb := []) Tryz.func29 (by kernel_rfl) rfl (by kernel_rfl) (by rfl) (.inr (frL_append (DKernel.enc_fr _) ⟨trivial, trivial⟩)) ?_
   repeat' ((conv=>whnf);first|with_reducible (first|refine Lm ?_|refine Wm (by omega) ?_|refine Bn ?_|refine Fm rfl ?_)|refine Bt ?_|refine Bu ?_|refine Cl.mk (c1) ?_|refine Cl.mk (c2) ?_|refine Cl.mk (c3) ?_)
   all_goals rfl
theorem HeapDestroy_impl (h : DHeap) (hs : DHeap.sml h) : CallsA Tryz.prog 44 false [.val (some 24) (DHeap.enc .imm h)] (.tup [some 5, none]) (DKernel.enc .own (destroyed h).1 ++ [I (destroyed h).2]) := by
 have c1 := HeapOk_impl h hs
 rw [heap_same] at c1
 have c2 := copyKernel_impl h.Kernel hs.1
 have hlen : h.Kernel.Machine.Table.Entries.length ≤ 1048576 := hs.1.1.2.1
 cases e1 : heapS h <;> rw [e1] at c1
 ·rw [show destroyed h = (h.Kernel, 0) by unfold destroyed; rw [if_neg (by simp [e1])]]
  refine fO (n := 44) [] Tryz.func44 (by kernel_rfl) rfl (by kernel_rfl) (by rfl) (.inr (frL_append (DKernel.enc_fr _) ⟨trivial, trivial⟩)) ?_
  repeat' ((conv=>whnf);first|with_reducible (first|refine Lm ?_|refine Wm (by omega) ?_|refine Bn ?_|refine Fm rfl ?_)|refine Bt ?_|refine Bu ?_|refine Cl.mk (c1) ?_|refine Cl.mk (c2) ?_)
  all_goals rfl
 ·have hk := heapS_kernel e1
  by_cases hc : h.Kernel.Calls = 100000
  ·rw [show destroyed h = (h.Kernel, 0) by unfold destroyed; rw [if_neg (fun e => e.2 hc)]]
   refine fO (n := 44) [] Tryz.func44 (by kernel_rfl) rfl (by kernel_rfl) (by rfl) (.inr (frL_append (DKernel.enc_fr _) ⟨trivial, trivial⟩)) ?_
   repeat' ((conv=>whnf);first|with_reducible (first|refine Lm ?_|refine Wm (by omega) ?_|refine eT (by omega) (fun hq => ?_)|refine Bn ?_|refine Fm rfl ?_)|refine Bt ?_|refine Bu ?_|refine Cl.mk (c1) ?_|refine Cl.mk (c2) ?_)
   all_goals rfl
  ·rw [show destroyed h = destr h.Kernel h.Kernel.Machine.Table.Entries.length by unfold destroyed; rw [if_pos ⟨e1, hc⟩]]
   refine fO (n := 44) [] Tryz.func44 (by kernel_rfl) rfl (by kernel_rfl) (by rfl) (.inr (frL_append (DKernel.enc_fr _) ⟨trivial, trivial⟩)) ?_
   repeat' ((conv=>whnf);first|with_reducible (first|refine Lm ?_|refine Wm (by omega) ?_|refine eF (by omega) (fun hq => ?_)|refine Bn ?_|refine Fm rfl ?_)|refine Bt ?_|refine Bu ?_|refine Cl.mk (c1) ?_|refine Cl.mk (c2) ?_)
   (conv=>whnf)
   refine Lp.mk (ι := Nat) (fun i => [(4, .hold .box (DKernel.enc .own (destr h.Kernel i).1)), (2, .hold .box [.z, .z, .z, I 0, .z]), (3, .hold .one [I (0)]), (5, .hold .one [I ((destr h.Kernel i).2)]), (27, .hold .one [I (h.Kernel.Machine.Table.Entries.length)]), (28, .hold .one [I ((i : Nat) : Int)])]) (fun i => i ≤ h.Kernel.Machine.Table.Entries.length) (fun i => h.Kernel.Machine.Table.Entries.length - i) (0) ?_ (Nat.zero_le _) fun i hi => ?_
   ·repeat' (first|exact trivial|rfl|refine And.intro ?_ ?_|(exact wkI (by first|omega|(simp only; omega)|(simp; omega))))
   obtain ⟨l1, l2, l3, l4, l5⟩ := destr_len h.Kernel i
   by_cases li : i < h.Kernel.Machine.Table.Entries.length
   ·have c4 := KUnmap_impl (destr h.Kernel i).1 i (kernelOk_destr hk i) (by rw [l2]; exact hc)
    by_cases hm : (pageEntry (destr h.Kernel i).1.Machine.Table i).Mode = 0
    ·rw [decide_eq_false (by simpa using hm), unmapK_no hm] at c4
     have hd := destr_no hm
     repeat' ((conv=>whnf);first|with_reducible (first|refine Lm ?_|refine Wm (by omega) ?_|refine dT (by omega) (fun hq => ?_)|refine Bn ?_|refine Fm rfl ?_)|refine Bt ?_|refine Bu ?_|refine Cl.eq (c4) ⟨⟨rfl, DKernel.enc_fz _⟩, ⟨rfl, rfl⟩, trivial⟩ ?_)
     (conv=>whnf)
     refine Nx.mk (i + 1) (by omega) (by omega) ?_
     rw [hd]
     repeat' (first|exact trivial|rfl|refine And.intro ?_ ?_|(exact wkI (by first|omega|(simp only; omega)|(simp; omega))))
    ·rw [decide_eq_true hm] at c4
     have hd := destr_yes hm
     repeat' ((conv=>whnf);first|with_reducible (first|refine Lm ?_|refine Wm (by omega) ?_|refine dT (by omega) (fun hq => ?_)|refine Bn ?_|refine Fm rfl ?_)|refine Bt ?_|refine Bu ?_|refine Cl.eq (c4) ⟨⟨rfl, DKernel.enc_fz _⟩, ⟨rfl, rfl⟩, trivial⟩ ?_)
     (conv=>whnf)
     refine Nx.mk (i + 1) (by omega) (by omega) ?_
     rw [hd]
     repeat' (first|exact trivial|rfl|refine And.intro ?_ ?_|(exact wkI (by first|omega|(simp only; omega)|(simp; omega))))
   ·obtain rfl : i = h.Kernel.Machine.Table.Entries.length := by omega
    repeat' ((conv=>whnf);first|with_reducible (first|refine Lm ?_|refine Wm (by omega) ?_|refine dF (by omega) (fun hq => ?_)|refine Bn ?_|refine Fm rfl ?_)|refine Bt ?_|refine Bu ?_)
    rfl
end Go.Proofs.YtogajjgmcnjkbaaGreat.Ab
/- What a valid heap is, part by part. No condition. -/
namespace Go.Proofs.YtogajjgmcnjkbaaGreat.Ab
/- what a valid heap is -/
theorem heapS_all {h : DHeap} (hh : heapS h = true) : kernelOk h.Kernel = true ∧ layoutOk h.Spans h.Larges = true ∧ pages0 h = true ∧ meshS h = true ∧ mailOk h.Mail = true ∧ (h.Caches.all cacheOk = true ∧ h.Caches.length = h.Mail.Buffers.length) ∧ quarOk h.Quar = true ∧ objsAll h = true ∧ heldAll h = true ∧ (holders h).Nodup ∧ (holders h).length = (liveS h.Spans h.Larges).length := by
 unfold heapS layAll mailCaches onceS at hh
 simp only [Bool.and_eq_true, decide_eq_true_eq] at hh
 obtain ⟨⟨⟨⟨⟨⟨⟨⟨⟨⟨k1, -⟩, k2⟩, k3⟩, k4⟩, ⟨⟨k5, k6⟩, k7⟩⟩, -⟩, k8⟩, -⟩, k9, ⟨k10, k11⟩, k12⟩, -⟩ := hh
 exact ⟨k1, k2, k3, k4, k5, ⟨k8, k6⟩, k7, k9, k10, k11, k12⟩
theorem heapS_num {h : DHeap} (hh : heapS h = true) : numsOk h = true := by
 unfold heapS at hh
 simp only [Bool.and_eq_true] at hh
 exact hh.1.1.2
end Go.Proofs.YtogajjgmcnjkbaaGreat.Ab
/- How large the kernel is that comes back when a heap is given back. No condition. -/
namespace Go.Proofs.YtogajjgmcnjkbaaGreat.Ab
open Go.RowKit
set_option maxRecDepth 20000
set_option maxHeartbeats 4000000
theorem cntIntSS_16 : ∀ {x : List (List Int)}, (∀ r ∈ x, r.length ≤ 16) → cntIntSS x ≤ 16 * x.length
 | [], _ => Nat.zero_le _
 | r :: x, h => by
  have h1 := h r (List.mem_cons_self ..)
  have h2 := cntIntSS_16 (x := x) fun r hr => h r (List.mem_cons_of_mem _ hr)
  simp only [cntIntSS, cntIntS, List.length_cons]; omega
theorem cntDEntryS_len : ∀ (x : List DEntry), cntDEntryS x = 2 * x.length
 | [] => rfl
 | e :: x => by simp only [cntDEntryS, DEntry.cnt, cntDEntryS_len x, List.length_cons]; omega
theorem kernelOk_cnt {k : DKernel} (h : kernelOk k = true) : DKernel.cnt k ≤ 1000 := by
 obtain ⟨h1, h2, h3, h4, h5, h6, h7⟩ := kernelOk_iff.1 h
 obtain ⟨g1, g2, g3, g4⟩ := framesOk_iff.1 h2
 obtain ⟨t1, t2, t3⟩ := tableOk_iff.1 h3
 have hc := cntIntSS_16 (x := k.Machine.Frames.Cells) fun r hr => by
  obtain ⟨j, hj⟩ := List.mem_iff_getElem?.1 hr
  have := g4 j (List.getElem?_eq_some_iff.1 hj).1
  rw [nth_of hj] at this
  unfold rowOk at this
  simp only [Bool.and_eq_true, decide_eq_true_eq] at this
  omega
 have he := cntDEntryS_len k.Machine.Table.Entries
 unfold DKernel.cnt DMachine.cnt DFrames.cnt DTable.cnt cntBoolS cntIntS
 omega
theorem destroyed_sml {h : DHeap} (hs : DHeap.sml h) : DKernel.sml (destroyed h).1 := by
 unfold destroyed
 split
 ·rename_i e; exact kernelOk_sml (kernelOk_destr (heapS_kernel e.1) _)
 ·exact hs.1
theorem destroyed_cnt {h : DHeap} (hc : DHeap.cnt h ≤ 8388608) : DKernel.cnt (destroyed h).1 ≤ 8388608 := by
 unfold destroyed
 split
 ·rename_i e; have := kernelOk_cnt (kernelOk_destr (heapS_kernel e.1) h.Kernel.Machine.Table.Entries.length); omega
 ·unfold DHeap.cnt at hc; simp only; omega
end Go.Proofs.YtogajjgmcnjkbaaGreat.Ab
