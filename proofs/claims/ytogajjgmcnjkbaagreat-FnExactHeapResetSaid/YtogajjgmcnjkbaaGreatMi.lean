/- Addresses in use, and that each has one holder: the contracts of LiveAddrs and l27Once, the reference's. No condition. -/
import Derived.Test.YtogajjgmcnjkbaaGreatMh

namespace Go.Proofs.YtogajjgmcnjkbaaGreat.Ab
open Go.RowKit
set_option maxRecDepth 20000
set_option maxHeartbeats 8000000
theorem liveN_yes {sp : List DSpan} {la : List DLarge} {n : Nat} (h : liveAt sp la n = true) : liveN sp la (n + 1) = liveN sp la n ++ [(n : Int)] := by
 unfold liveN; rw [List.range_succ, List.filter_append, List.map_append]; simp [h]
theorem liveN_no {sp : List DSpan} {la : List DLarge} {n : Nat} (h : liveAt sp la n = false) : liveN sp la (n + 1) = liveN sp la n := by
 unfold liveN; rw [List.range_succ, List.filter_append, List.map_append]; simp [h]
theorem liveN_len (sp : List DSpan) (la : List DLarge) (n : Nat) : (liveN sp la n).length ≤ n := by
 unfold liveN; rw [List.length_map]; exact Nat.le_trans (List.length_filter_le ..) (by simp)
theorem liveAt_w {sp : List DSpan} {la : List DLarge} {n : Nat} {w : DOwner} (hw : denotes sp la (n : Nat) = w) : liveAt sp la n = (decide (w.Offset = 0) && (decide (w.Kind = 1) || decide (w.Kind = 3))) := by
 unfold liveAt; rw [hw]
theorem wfI_nat {n : Nat} (h : n ≤ 1048576) : wfI (n : Nat) := ⟨by omega, by omega⟩
theorem LiveAddrs_spec (sp : List DSpan) (la : List DLarge) (hs1 : smlDSpanS sp) (hs2 : smlDLargeS la) (hlay : layoutOk sp la = true) : CallsA Tryz.prog 215 false [.val none (rDSpanS .imm sp), .val none (rDLargeS .imm la)] .one (rIntS .own (liveS sp la)) := by
 have h0 := LayoutOk_spec sp la hs1 hs2
 rw [hlay] at h0
 refine fO (n := 40) [] Tryz.func215 (by kernel_rfl) rfl (by kernel_rfl) (by rfl) (.inr (rIntS_fr _)) ?_
 repeat' ((conv=>whnf);first|with_reducible (first|refine Lm ?_|refine Wm (by omega) ?_|refine Bn ?_|refine Fm rfl ?_)|refine Bt ?_|refine Bu ?_)
 (conv=>whnf)
 refine Lp.mk (ι := Nat) (fun n => [(0, .hold .one (rDSpanS .imm sp)), (1, .hold .one (rDLargeS .imm la)), (5, .hold .one (rIntS .own (liveN sp la n))), (6, .hold .one [I ((n : Nat) : Int)])]) (fun n => n ≤ 512) (fun n => 512 - n) (0) ?_ (Nat.zero_le _) fun n hn => ?_
 ·repeat' (first|exact trivial|rfl|refine And.intro ?_ ?_|(exact wkI (by first|omega|(simp only; omega)|(simp; omega))))
 have hll := liveN_len sp la n
 by_cases ln : n < 512
 ·have hd := Denotes_spec sp la (n : Nat) hs1 hs2 hlay (wfI_nat (by omega))
  generalize hw : denotes sp la (n : Nat) = w at hd
  have hlw := liveAt_w hw
  repeat' ((conv=>whnf);first|with_reducible (first|refine Lm ?_|refine Wm (by omega) ?_|refine dT (by omega) (fun hq => ?_)|refine Bf.E (fun hq => ?_) (fun hq => ?_)|refine Bn ?_|refine Fm rfl ?_)|refine Bt ?_|refine Bu ?_|refine Cl.mk h0 ?_|refine Cl.mk hd ?_|refine Ap.mk rowI_one (fun r hr => by rw [List.mem_singleton.1 hr]; rfl) (by simp [noOwn, isOwn]) (by simp; omega) (by simp only [List.length_map]; exact mkB (by simp; omega) (by decide)) rfl ?_)
  all_goals first
   |(have hon : liveAt sp la n = true := by rw [hlw]; grind
     (conv=>whnf)
     refine Nx.mk (n + 1) (by omega) (by omega) ?_
     rw [liveN_yes hon]
     (repeat' (first|exact trivial|rfl|exact And.intro rfl (And.intro (congrArg (C.s Own.own) (by simp [rI])) trivial)|refine And.intro ?_ ?_)))
   |(have hon : liveAt sp la n = false := by rw [hlw]; grind
     (conv=>whnf)
     refine Nx.mk (n + 1) (by omega) (by omega) ?_
     rw [liveN_no hon]
     (repeat' (first|exact trivial|rfl|refine And.intro ?_ ?_)))
 ·obtain rfl : n = 512 := by omega
  repeat' ((conv=>whnf);first|with_reducible (first|refine Lm ?_|refine Wm (by omega) ?_|refine dF (by omega) (fun hq => ?_)|refine Bn ?_|refine Fm rfl ?_)|refine Bt ?_|refine Bu ?_|refine Cl.mk h0 ?_)
  rfl
/- on their way: how many -/
theorem flight_len (m : DMail) (hi : m.Inbox.length = m.Buffers.length) : ∀ i, i ≤ m.Buffers.length → (((flight1 m i).length + (flight2 m i).length : Nat) : Int) = mailSum m i
 | 0, _ => rfl
 | i + 1, h => by
  have ih := flight_len m hi i (by omega)
  have h1 := get_nth (xs := m.Buffers) (i := i) (by omega)
  have h2 := get_nth (xs := m.Inbox) (i := i) (by omega)
  rw [flight1_step h1, flight2_step h2]
  simp only [List.length_append, List.length_map]
  show _ = mailSum m i + ((nth m.Buffers i).length + (nth m.Inbox i).length)
  omega
theorem inFlight_len {m : DMail} (h : mailOk m = true) : (inFlight m).length ≤ 30 := by
 have hf := mailOk_facts h
 have h1 := flight_len m hf.2.2 m.Buffers.length (Nat.le_refl _)
 have h2 : mailSum m m.Buffers.length ≤ 30 := by
  unfold mailOk at h; simp only [Bool.and_eq_true, decide_eq_true_eq] at h; exact h.2
 rw [inFlight_ok h, List.length_append, hf.2.2]
 omega
theorem inFlight_wf {m : DMail} (hw : DMail.wf m) : ∀ a ∈ inFlight m, wfI a := by
 intro a ha
 unfold inFlight at ha
 split at ha
 ·rcases List.mem_append.1 ha with h | h
  ·obtain ⟨l, hl, h⟩ := List.mem_flatMap.1 h
   obtain ⟨p, hp, rfl⟩ := List.mem_map.1 h
   exact ((hw.1.2 l hl).2 p hp).2
  ·obtain ⟨l, hl, h⟩ := List.mem_flatten.1 h
   exact (hw.2.2 l hl).2 a h
 ·cases ha
/- holders -/
theorem heldAll_1 {h : DHeap} (h1 : h.Caches.all (cacheHeld h) = false) : onceS h = false := by unfold onceS heldAll; rw [h1]; rfl
theorem heldAll_2 {h : DHeap} (h1 : h.Quar.Lst.all (quarHeld h) = false) : onceS h = false := by unfold onceS heldAll; rw [h1]; simp
theorem heldAll_3 {h : DHeap} (h1 : (inFlight h.Mail).all (flyHeld h) = false) : onceS h = false := by unfold onceS heldAll; rw [h1]; simp
theorem onceS_dup {h : DHeap} {i : Nat} (hi : i < (holders h).length) (hd : nth (holders h) i ∈ (holders h).take i) : onceS h = false := by
 have h1 : decide (holders h).Nodup = false := no_dup (S := (holders h).take i) (p := nth (holders h) i) (by
   have := get_nth hi
   have e : (holders h).take i ++ [nth (holders h) i] = (holders h).take (i + 1) := by rw [List.take_add_one, this]; rfl
   rw [e]; exact List.take_prefix ..) hd
 unfold onceS; rw [h1]; simp
theorem caches_take {h : DHeap} {i : Nat} {c : DCache} (hx : h.Caches[i]? = some c) : ((h.Caches.take (i + 1)).flatMap fun c => c.Lists.flatten) = ((h.Caches.take i).flatMap fun c => c.Lists.flatten) ++ c.Lists.flatten := by
 rw [List.take_add_one, hx, List.flatMap_append]; simp
theorem lists_take {c : DCache} {k : Nat} {l : List Int} (hx : c.Lists[k]? = some l) : (c.Lists.take (k + 1)).flatten = (c.Lists.take k).flatten ++ l := by
 rw [List.take_add_one, hx, List.flatten_append]; simp
theorem l27Once_ok (h : DHeap) (hs : DHeap.sml h) (hw : DHeap.wf h) (hlay : layoutOk h.Spans h.Larges = true) (hmail : mailOk h.Mail = true) (hco : ∀ c ∈ h.Caches, cacheOk c = true) : CallsA Tryz.prog 98 false [.val (some 24) (DHeap.enc .imm h)] .one [B (onceS h)] := by
 obtain ⟨-, -, hs1, hs2, hso, hsc, hsm, hsq, -⟩ := hs
 obtain ⟨-, -, -, -, -, hwc, hwm, hwq, -⟩ := hw
 have hlo : h.Objs.length ≤ 1048576 := hso.1
 have hlc : h.Caches.length ≤ 1048576 := hsc.1
 have hlq : h.Quar.Lst.length ≤ 1048576 := hsq.1
 have hfl := inFlight_len hmail
 have hfw := inFlight_wf hwm
 have hsl : ∀ a c, wfI a → CallsA Tryz.prog 213 false [.val (some 24) (DHeap.enc .imm h), .val none [I a], .val none [I c]] .one [B (slotHeld h a c)] := fun a c ha => l27Slot_ok h a c hs1 hs2 hlay ha
 refine fO (n := 159) [(16,8,[63,64,65,66,67,68,69,70]),(22,17,[86,87,88,89,90,91,92,93,94,95,96,97,98,99,100,101,102]),(29,7,[122,123,124,125,126,127,128]),(35,8,[142,143,144,145,146,147,148,149])] Tryz.func98 (by kernel_rfl) rfl (by kernel_rfl) (by rfl) (.inr ⟨trivial, trivial⟩) ?_
 repeat' ((conv=>whnf);first|with_reducible (first|refine Lm ?_|refine Wm (by omega) ?_|refine Bn ?_|refine Fm rfl ?_)|refine Bt ?_|refine Bu ?_)
 (conv=>whnf)
 refine Lp.mk (ι := Nat × List Int) (fun i => [(1, .hold .box (DHeap.enc .imm h)), (3, .hold .one (rIntS .own i.2)), (4, .hold .one [I ((i.1 : Nat) : Int)])]) (fun i => i.1 ≤ h.Objs.length ∧ i.2 = (h.Objs.take i.1).map (·.Addr)) (fun i => h.Objs.length - i.1) ((0, [])) ?_ (⟨Nat.zero_le _, rfl⟩) fun i hi => ?_
 ·repeat' (first|exact trivial|rfl|refine And.intro ?_ ?_|(exact wkI (by first|omega|(simp only; omega)|(simp; omega))))
 obtain ⟨i, S⟩ := i
 obtain ⟨hi, hS⟩ := hi
 simp only at hi hS ⊢
 have hSl : S.length = i := by rw [hS, List.length_map, List.length_take]; omega
 by_cases li : i < h.Objs.length
 ·have hx := get_nth li
  repeat' ((conv=>whnf);first|with_reducible (first|refine Lm ?_|refine Wm (by omega) ?_|refine Ix.nat (get_map hx) ?_|refine dT (by omega) (fun hq => ?_)|refine Bn ?_|refine Fm rfl ?_)|refine Bt ?_|refine Bu ?_|refine Ap.mk rowI_one (fun r hr => by rw [List.mem_singleton.1 hr]; rfl) (by simp [noOwn, isOwn]) (by simp; omega) (by simp only [List.length_map]; exact mkB (by simp; omega) (by decide)) rfl ?_)
  ((conv=>whnf)
   refine Nx.mk (i + 1, S ++ [(nth h.Objs i).Addr]) ⟨(by simp only; omega), (by simp only; rw [hS, List.take_add_one, hx]; simp)⟩ (by simp only; omega) ?_
   (repeat' (first|exact trivial|rfl|exact And.intro rfl (And.intro (congrArg (C.s Own.own) (by simp [rI])) trivial)|refine And.intro ?_ ?_)))
 obtain rfl : i = h.Objs.length := by omega
 rw [List.take_length] at hS
 repeat' ((conv=>whnf);first|with_reducible (first|refine Lm ?_|refine Wm (by omega) ?_|refine dF (by omega) (fun hq => ?_)|refine Bn ?_|refine Fm rfl ?_)|refine Bt ?_|refine Bu ?_)
 (conv=>whnf)
 refine Lp.mk (ι := Nat × List Int) (fun i => [(1, .hold .box (DHeap.enc .imm h)), (3, .hold .one (rIntS .own i.2)), (5, .hold .one [I ((i.1 : Nat) : Int)])]) (fun i => i.1 ≤ h.Caches.length ∧ i.2 = S ++ ((h.Caches.take i.1).flatMap fun c => c.Lists.flatten) ∧ (h.Caches.take i.1).all (cacheHeld h) = true ∧ i.2.length ≤ 1048576 + 32 * i.1) (fun i => h.Caches.length - i.1) ((0, S)) ?_ (⟨Nat.zero_le _, by simp, rfl, by simp only; omega⟩) fun i hi => ?_
 ·repeat' (first|exact trivial|rfl|refine And.intro ?_ ?_|(exact wkI (by first|omega|(simp only; omega)|(simp; omega))))
 obtain ⟨i, S2⟩ := i
 obtain ⟨hi2, hS2, ai, hb2⟩ := hi
 simp only at hi2 hS2 ai hb2 ⊢
 by_cases li2 : i < h.Caches.length
 ·have hx := get_nth li2
  obtain ⟨h4, h8⟩ := cacheOk_yes (hco _ (nth_mem li2))
  have hwl := hwc.2 _ (nth_mem li2)
  repeat' ((conv=>whnf);first|with_reducible (first|refine Lm ?_|refine Wm (by omega) ?_|refine Ix.nat (get_map hx) ?_|refine dT (by omega) (fun hq => ?_)|refine Bn ?_|refine Fm rfl ?_)|refine Bt ?_|refine Bu ?_)
  (conv=>whnf)
  refine Lp.mk (ι := Nat × List Int) (fun k => [(1, .hold .box (DHeap.enc .imm h)), (3, .hold .one (rIntS .own k.2)), (5, .hold .one [I ((i : Nat) : Int)]), (6, .hold .one [I ((k.1 : Nat) : Int)])]) (fun k => k.1 ≤ (nth h.Caches i).Lists.length ∧ k.2 = S2 ++ ((nth h.Caches i).Lists.take k.1).flatten ∧ allN k.1 (listHeld h (nth h.Caches i)) = true ∧ k.2.length ≤ S2.length + 8 * k.1) (fun k => (nth h.Caches i).Lists.length - k.1) ((0, S2)) ?_ (⟨Nat.zero_le _, by simp, rfl, by simp⟩) fun k hk => ?_
  ·repeat' (first|exact trivial|rfl|refine And.intro ?_ ?_|(exact wkI (by first|omega|(simp only; omega)|(simp; omega))))
  obtain ⟨k, S3⟩ := k
  obtain ⟨hk, hS3, ak, hb3⟩ := hk
  simp only at hk hS3 ak hb3 ⊢
  by_cases lk : k < (nth h.Caches i).Lists.length
  ·have hy := get_nth lk
   have hl8 := h8 _ (nth_mem lk)
   have hwa := (hwl.2 _ (nth_mem lk)).2
   repeat' ((conv=>whnf);first|with_reducible (first|refine Lm ?_|refine Wm (by omega) ?_|refine Ix.nat (get_map hx) ?_|refine Ix.nat (get_map hy) ?_|refine dT (by omega) (fun hq => ?_)|refine Bn ?_|refine Fm rfl ?_)|refine Bt ?_|refine Bu ?_)
   (conv=>whnf)
   refine Lp.mk (ι := Nat × List Int) (fun j => [(1, .hold .box (DHeap.enc .imm h)), (3, .hold .one (rIntS .own j.2)), (5, .hold .one [I ((i : Nat) : Int)]), (6, .hold .one [I ((k : Nat) : Int)]), (7, .hold .one (rIntS .imm (nth (nth h.Caches i).Lists k))), (8, .hold .one [I ((j.1 : Nat) : Int)])]) (fun j => j.1 ≤ (nth (nth h.Caches i).Lists k).length ∧ j.2 = S3 ++ (nth (nth h.Caches i).Lists k).take j.1 ∧ ((nth (nth h.Caches i).Lists k).take j.1).all (fun a => slotHeld h a (k : Nat)) = true) (fun j => (nth (nth h.Caches i).Lists k).length - j.1) ((0, S3)) ?_ (⟨Nat.zero_le _, by simp, rfl⟩) fun j hj => ?_
   ·repeat' (first|exact trivial|rfl|refine And.intro ?_ ?_|(exact wkI (by first|omega|(simp only; omega)|(simp; omega))))
   obtain ⟨j, S4⟩ := j
   obtain ⟨hj, hS4, aj⟩ := hj
   simp only at hj hS4 aj ⊢
   have hl4 : S4.length = S3.length + j := by rw [hS4, List.length_append, List.length_take]; omega
   by_cases lj : j < (nth (nth h.Caches i).Lists k).length
   ·have hz := get_nth lj
    have hsj := hsl (nth (nth (nth h.Caches i).Lists k) j) (k : Nat) (hwa _ (nth_mem lj))
    cases eh : slotHeld h (nth (nth (nth h.Caches i).Lists k) j) (k : Nat) <;> rw [eh] at hsj
    ·repeat' ((conv=>whnf);first|with_reducible (first|refine Lm ?_|refine Wm (by omega) ?_|refine Ix.nat (get_map hz) ?_|refine dT (by omega) (fun hq => ?_)|refine Bn ?_|refine Fm rfl ?_)|refine Bt ?_|refine Bu ?_|refine Cl.mk hsj ?_)
     exact congrArg (fun z => [B z]) ((heldAll_1 (all_no hx (by unfold cacheHeld; exact allN_no lk (all_no hz eh)))).symm)
    ·repeat' ((conv=>whnf);first|with_reducible (first|refine Lm ?_|refine Wm (by omega) ?_|refine Ix.nat (get_map hz) ?_|refine dT (by omega) (fun hq => ?_)|refine Bn ?_|refine Fm rfl ?_)|refine Bt ?_|refine Bu ?_|refine Cl.mk hsj ?_|refine Ap.mk rowI_one (fun r hr => by rw [List.mem_singleton.1 hr]; rfl) (by simp [noOwn, isOwn]) (by simp; omega) (by show _ * 8 ≤ _; simp; omega) rfl ?_)
     ((conv=>whnf)
      refine Nx.mk (j + 1, S4 ++ [nth (nth (nth h.Caches i).Lists k) j]) ⟨(by simp only; omega), (by simp only; rw [hS4, List.take_add_one, hz, List.append_assoc]; rfl), all_yes hz aj eh⟩ (by simp only; omega) ?_
      (repeat' (first|exact trivial|rfl|exact And.intro rfl (And.intro (congrArg (C.s Own.own) (by simp [rI])) trivial)|refine And.intro ?_ ?_)))
   ·obtain rfl : j = (nth (nth h.Caches i).Lists k).length := by omega
    rw [List.take_length] at hS4 aj
    repeat' ((conv=>whnf);first|with_reducible (first|refine Lm ?_|refine Wm (by omega) ?_|refine dF (by omega) (fun hq => ?_)|refine Bn ?_|refine Fm rfl ?_)|refine Bt ?_|refine Bu ?_)
    ((conv=>whnf);refine Nx.mk (k + 1, S4) ⟨(by simp only; omega), (by simp only; rw [hS4, hS3, lists_take hy, List.append_assoc]), allN_yes ak aj, (by simp only; omega)⟩ (by simp only; omega) ?_; (repeat' (first|exact trivial|rfl|refine And.intro ?_ ?_|(exact wkI (by first|omega|(simp only; omega)|(simp; omega))))))
  ·obtain rfl : k = (nth h.Caches i).Lists.length := by omega
   rw [List.take_length] at hS3
   repeat' ((conv=>whnf);first|with_reducible (first|refine Lm ?_|refine Wm (by omega) ?_|refine Ix.nat (get_map hx) ?_|refine dF (by omega) (fun hq => ?_)|refine Bn ?_|refine Fm rfl ?_)|refine Bt ?_|refine Bu ?_)
   ((conv=>whnf);refine Nx.mk (i + 1, S3) ⟨(by simp only; omega), (by simp only; rw [hS3, hS2, caches_take hx, List.append_assoc]), all_yes hx ai ak, (by simp only; omega)⟩ (by simp only; omega) ?_; (repeat' (first|exact trivial|rfl|refine And.intro ?_ ?_|(exact wkI (by first|omega|(simp only; omega)|(simp; omega))))))
 obtain rfl : i = h.Caches.length := by omega
 rw [List.take_length] at hS2 ai
 repeat' ((conv=>whnf);first|with_reducible (first|refine Lm ?_|refine Wm (by omega) ?_|refine dF (by omega) (fun hq => ?_)|refine Bn ?_|refine Fm rfl ?_)|refine Bt ?_|refine Bu ?_)
 (conv=>whnf)
 refine Lp.mk (ι := Nat × List Int) (fun q => [(1, .hold .box (DHeap.enc .imm h)), (3, .hold .one (rIntS .own q.2)), (9, .hold .one [I ((q.1 : Nat) : Int)])]) (fun q => q.1 ≤ h.Quar.Lst.length ∧ q.2 = S2 ++ (h.Quar.Lst.take q.1).map (·.Addr) ∧ (h.Quar.Lst.take q.1).all (quarHeld h) = true) (fun q => h.Quar.Lst.length - q.1) ((0, S2)) ?_ (⟨Nat.zero_le _, by simp, rfl⟩) fun q hq => ?_
 ·repeat' (first|exact trivial|rfl|refine And.intro ?_ ?_|(exact wkI (by first|omega|(simp only; omega)|(simp; omega))))
 obtain ⟨q, S5⟩ := q
 obtain ⟨hq1, hS5, aq⟩ := hq
 simp only at hq1 hS5 aq ⊢
 have hl5 : S5.length = S2.length + q := by rw [hS5, List.length_append, List.length_map, List.length_take]; omega
 by_cases lq : q < h.Quar.Lst.length
 ·have hz := get_nth lq
  have hsj := hsl (nth h.Quar.Lst q).Addr (nth h.Quar.Lst q).Class (hwq.2.2 _ (nth_mem lq)).1
  cases eh : slotHeld h (nth h.Quar.Lst q).Addr (nth h.Quar.Lst q).Class <;> rw [eh] at hsj
  ·repeat' ((conv=>whnf);first|with_reducible (first|refine Lm ?_|refine Wm (by omega) ?_|refine Ix.nat (get_map hz) ?_|refine dT (by omega) (fun hq => ?_)|refine Bn ?_|refine Fm rfl ?_)|refine Bt ?_|refine Bu ?_|refine Cl.mk hsj ?_)
   exact congrArg (fun z => [B z]) ((heldAll_2 (all_no hz eh)).symm)
  ·repeat' ((conv=>whnf);first|with_reducible (first|refine Lm ?_|refine Wm (by omega) ?_|refine Ix.nat (get_map hz) ?_|refine dT (by omega) (fun hq => ?_)|refine Bn ?_|refine Fm rfl ?_)|refine Bt ?_|refine Bu ?_|refine Cl.mk hsj ?_|refine Ap.mk rowI_one (fun r hr => by rw [List.mem_singleton.1 hr]; rfl) (by simp [noOwn, isOwn]) (by simp; omega) (by show _ * 8 ≤ _; simp; omega) rfl ?_)
   ((conv=>whnf)
    refine Nx.mk (q + 1, S5 ++ [(nth h.Quar.Lst q).Addr]) ⟨(by simp only; omega), (by simp only; rw [hS5, List.take_add_one, hz, List.map_append, List.append_assoc]; rfl), all_yes hz aq eh⟩ (by simp only; omega) ?_
    (repeat' (first|exact trivial|rfl|exact And.intro rfl (And.intro (congrArg (C.s Own.own) (by simp [rI])) trivial)|refine And.intro ?_ ?_)))
 obtain rfl : q = h.Quar.Lst.length := by omega
 rw [List.take_length] at hS5 aq
 repeat' ((conv=>whnf);first|with_reducible (first|refine Lm ?_|refine Wm (by omega) ?_|refine dF (by omega) (fun hq => ?_)|refine Bn ?_|refine Fm rfl ?_)|refine Bt ?_|refine Bu ?_|refine Cl.mk (InFlight_spec h.Mail hsm) ?_)
 (conv=>whnf)
 refine Lp.mk (ι := Nat × List Int) (fun q => [(1, .hold .box (DHeap.enc .imm h)), (3, .hold .one (rIntS .own q.2)), (10, .hold .one (rIntS .own (inFlight h.Mail))), (11, .hold .one [I ((q.1 : Nat) : Int)])]) (fun q => q.1 ≤ (inFlight h.Mail).length ∧ q.2 = S5 ++ (inFlight h.Mail).take q.1 ∧ ((inFlight h.Mail).take q.1).all (flyHeld h) = true) (fun q => (inFlight h.Mail).length - q.1) ((0, S5)) ?_ (⟨Nat.zero_le _, by simp, rfl⟩) fun q hq => ?_
 ·repeat' (first|exact trivial|rfl|refine And.intro ?_ ?_|(exact wkI (by first|omega|(simp only; omega)|(simp; omega))))
 obtain ⟨q, S6⟩ := q
 obtain ⟨hq1, hS6, aq6⟩ := hq
 simp only at hq1 hS6 aq6 ⊢
 have hl6 : S6.length = S5.length + q := by rw [hS6, List.length_append, List.length_take]; omega
 by_cases lq : q < (inFlight h.Mail).length
 ·have hz := get_nth lq
  have hsj := hsl (nth (inFlight h.Mail) q) (-1) (hfw _ (nth_mem lq))
  cases eh : slotHeld h (nth (inFlight h.Mail) q) (-1) <;> rw [eh] at hsj
  ·repeat' ((conv=>whnf);first|with_reducible (first|refine Lm ?_|refine Wm (by omega) ?_|refine Ix.nat (get_map hz) ?_|refine dT (by omega) (fun hq => ?_)|refine Bn ?_|refine Fm rfl ?_)|refine Bt ?_|refine Bu ?_|refine Rw.one rfl (get_map hz) rfl ?_|refine Cl.mk hsj ?_)
   exact congrArg (fun z => [B z]) ((heldAll_3 (all_no hz eh)).symm)
  ·repeat' ((conv=>whnf);first|with_reducible (first|refine Lm ?_|refine Wm (by omega) ?_|refine Ix.nat (get_map hz) ?_|refine dT (by omega) (fun hq => ?_)|refine Bn ?_|refine Fm rfl ?_)|refine Bt ?_|refine Bu ?_|refine Rw.one rfl (get_map hz) rfl ?_|refine Cl.mk hsj ?_|refine Ap.mk rowI_one (fun r hr => by rw [List.mem_singleton.1 hr]; rfl) (by simp [noOwn, isOwn]) (by simp; omega) (by show _ * 8 ≤ _; simp; omega) rfl ?_)
   ((conv=>whnf)
    refine Nx.mk (q + 1, S6 ++ [nth (inFlight h.Mail) q]) ⟨(by simp only; omega), (by simp only; rw [hS6, List.take_add_one, hz, List.append_assoc]; rfl), all_yes hz aq6 eh⟩ (by simp only; omega) ?_
    (repeat' (first|exact trivial|rfl|exact And.intro rfl (And.intro (congrArg (C.s Own.own) (by simp [rI])) trivial)|refine And.intro ?_ ?_)))
 obtain rfl : q = (inFlight h.Mail).length := by omega
 rw [List.take_length] at hS6 aq6
 have hall : S6 = holders h := by rw [hS6, hS5, hS2, hS]; rfl
 have hheld : heldAll h = true := by unfold heldAll; rw [ai, aq, aq6]; rfl
 have hbig : S6.length ≤ 100000000 := by omega
 clear hS6 hS5 hS2 hS hSl hl5 hb2 hl6
 repeat' ((conv=>whnf);first|with_reducible (first|refine Lm ?_|refine Wm (by omega) ?_|refine dF (by omega) (fun hq => ?_)|refine Bn ?_|refine Fm rfl ?_)|refine Bt ?_|refine Bu ?_)
 (conv=>whnf)
 refine Lp.fz 3 (ι := Nat) (fun i => [(1, .hold .box (DHeap.enc .imm h)), (3, .hold .one (rIntS .imm S6)), (12, .hold .one [I ((i : Nat) : Int)])]) (fun i => i ≤ S6.length ∧ (S6.take i).Nodup) (fun i => S6.length - i) 0 ?_ ⟨Nat.zero_le _, by simp⟩ fun i hi => ?_
 ·(repeat' (first|exact trivial|rfl|exact And.intro rfl (show wkL (fzL (rIntS .own S6)) (rIntS .imm S6) by rw [rIntS_fz]; exact wkL_refl _)|refine And.intro ?_ ?_))
 obtain ⟨hi, hnd⟩ := hi
 by_cases lj : i < S6.length
 ·have hz := get_nth lj
  have htl : (S6.take i).length = i := by rw [List.length_take]; omega
  repeat' ((conv=>whnf);first|with_reducible (first|refine Lm ?_|refine Wm (by omega) ?_|refine Ix.nat (get_map hz) ?_|refine dT (by omega) (fun hq => ?_)|refine Bf.D (fun hq => ?_) (fun hq => ?_)|refine Bn ?_|refine Fm rfl ?_)|refine Bt ?_|refine Bu ?_|refine Sl.pre i rfl (by simp; omega) (fun r hr => by obtain ⟨z, -, rfl⟩ := List.mem_map.1 hr; rfl) (List.map_take ..) ?_|refine Cl.mk (l08Has_ok (S6.take i) _ (by omega)) ?_)
  all_goals first
   | exact congrArg (fun z => [B z]) ((by rw [hall] at *; exact (onceS_dup (by assumption) (by assumption)).symm))
   | ((conv=>whnf);refine Nx.mk (i + 1) ⟨by omega, by rw [List.take_add_one, hz]; exact nodup_snoc hnd (by assumption)⟩ (by omega) ?_; (repeat' (first|exact trivial|rfl|refine And.intro ?_ ?_|(exact wkI (by first|omega|(simp only; omega)|(simp; omega))))))
 ·obtain rfl : i = S6.length := by omega
  rw [List.take_length] at hnd
  have hlv := liveN_len h.Spans h.Larges 512
  repeat' ((conv=>whnf);first|with_reducible (first|refine Lm ?_|refine Wm (by omega) ?_|refine dF (by omega) (fun hq => ?_)|refine Bn ?_|refine Fm rfl ?_)|refine Bt ?_|refine Bu ?_|refine Cl.mk (LiveAddrs_spec h.Spans h.Larges hs1 hs2 hlay) ?_)
  exact congrArg (fun z => [B z]) ((by unfold onceS; rw [hheld, ← hall, decide_eq_true hnd, Bool.true_and, Bool.true_and]; rw [Bool.eq_iff_iff, beq_iff_eq, decide_eq_true_eq]; unfold liveS at *; omega))
end Go.Proofs.YtogajjgmcnjkbaaGreat.Ab
/- The heap: the contract of the reference's HeapOk. No condition. -/
namespace Go.Proofs.YtogajjgmcnjkbaaGreat.Ab
open Go.RowKit
set_option maxRecDepth 20000
set_option maxHeartbeats 8000000
def mailCaches (h : DHeap) : Bool := (mailOk h.Mail && decide (h.Caches.length = h.Mail.Buffers.length)) && quarOk h.Quar
def heapS (h : DHeap) : Bool := ((((((layAll h && meshS h) && mailCaches h) && sinceOk h) && h.Caches.all cacheOk) && numsOk h) && (objsAll h && onceS h)) && jobAt h
theorem HeapOk_spec (h : DHeap) (hs : DHeap.sml h) (hw : DHeap.wf h) : CallsA Tryz.prog 26 false [.val (some 24) (DHeap.enc .imm h)] .one [B (heapS h)] := by
 have hsA := hs
 have hwA := hw
 obtain ⟨hsk, hsf, hs1, hs2, hso, hsc, hsm, hsq, hsj⟩ := hs
 obtain ⟨-, -, -, -, hwo, hwc, hwm, hwq, -⟩ := hw
 have hst : smlT h := hsk.1.2
 have hpn : pgN h ≤ 1048576 := hst.1
 have hlo : h.Objs.length ≤ 1048576 := hso.1
 have hlc : h.Caches.length ≤ 1048576 := hsc.1
 have hlq : h.Quar.Lst.length ≤ 1048576 := hsq.1
 have hlb : h.Mail.Buffers.length ≤ 1048576 := hsm.1.1
 have c1 := KernelOk_spec h.Kernel hsk
 have c2 := RangesOk_spec (pgN h) h.Free ⟨by omega, by omega⟩ hsf
 have c3 := LayoutOk_spec h.Spans h.Larges hs1 hs2
 have c5 := l27Meshed_ok h hs1 hst
 have c6 := MailOk_spec h.Mail hsm
 have c7 := QuarOk_spec h.Quar hsq
 cases e1 : kernelOk h.Kernel <;> rw [e1] at c1
 ·refine fO (n := 150) [(8,10,[67,68,69,70,71,72,73,74,75,76])] Tryz.func26 (by kernel_rfl) rfl (by kernel_rfl) (by rfl) (.inr ⟨trivial, trivial⟩) ?_
  repeat' ((conv=>whnf);first|with_reducible (first|refine Lm ?_|refine Wm (by omega) ?_|refine Bf.N (fun hq => ?_) (fun hq => ?_)|refine Bn ?_|refine Fm rfl ?_)|refine Bt ?_|refine Bu ?_|refine Cl.mk c1 ?_)
  all_goals first
   | exact congrArg (fun z => [B z]) ((by unfold heapS layAll; rw [e1]; simp))
   |(exfalso; omega)
 cases e2 : rangesOk (pgN h) h.Free <;> rw [e2] at c2
 ·refine fO (n := 150) [(8,10,[67,68,69,70,71,72,73,74,75,76])] Tryz.func26 (by kernel_rfl) rfl (by kernel_rfl) (by rfl) (.inr ⟨trivial, trivial⟩) ?_
  repeat' ((conv=>whnf);first|with_reducible (first|refine Lm ?_|refine Wm (by omega) ?_|refine Bf.N (fun hq => ?_) (fun hq => ?_)|refine Bn ?_|refine Fm rfl ?_)|refine Bt ?_|refine Bu ?_|refine Cl.mk c1 ?_|refine Cl.mk c2 ?_)
  all_goals first
   | exact congrArg (fun z => [B z]) ((by unfold heapS layAll; rw [e2]; simp))
   |(exfalso; omega)
 cases e3 : layoutOk h.Spans h.Larges <;> rw [e3] at c3
 ·refine fO (n := 150) [(8,10,[67,68,69,70,71,72,73,74,75,76])] Tryz.func26 (by kernel_rfl) rfl (by kernel_rfl) (by rfl) (.inr ⟨trivial, trivial⟩) ?_
  repeat' ((conv=>whnf);first|with_reducible (first|refine Lm ?_|refine Wm (by omega) ?_|refine Bf.N (fun hq => ?_) (fun hq => ?_)|refine Bn ?_|refine Fm rfl ?_)|refine Bt ?_|refine Bu ?_|refine Cl.mk c1 ?_|refine Cl.mk c2 ?_|refine Cl.mk c3 ?_)
  all_goals first
   | exact congrArg (fun z => [B z]) ((by unfold heapS layAll; rw [e3]; simp))
   |(exfalso; omega)
 have c4 := l27Pages_ok h hs1 hs2 hst hsf e3
 cases e4 : pages0 h <;> rw [e4] at c4
 ·refine fO (n := 150) [(8,10,[67,68,69,70,71,72,73,74,75,76])] Tryz.func26 (by kernel_rfl) rfl (by kernel_rfl) (by rfl) (.inr ⟨trivial, trivial⟩) ?_
  repeat' ((conv=>whnf);first|with_reducible (first|refine Lm ?_|refine Wm (by omega) ?_|refine Bf.N (fun hq => ?_) (fun hq => ?_)|refine Bn ?_|refine Fm rfl ?_)|refine Bt ?_|refine Bu ?_|refine Cl.mk c1 ?_|refine Cl.mk c2 ?_|refine Cl.mk c3 ?_|refine Cl.mk c4 ?_)
  all_goals first
   | exact congrArg (fun z => [B z]) ((by unfold heapS layAll; rw [e4]; simp))
   |(exfalso; omega)
 cases e5 : meshS h <;> rw [e5] at c5
 ·refine fO (n := 150) [(8,10,[67,68,69,70,71,72,73,74,75,76])] Tryz.func26 (by kernel_rfl) rfl (by kernel_rfl) (by rfl) (.inr ⟨trivial, trivial⟩) ?_
  repeat' ((conv=>whnf);first|with_reducible (first|refine Lm ?_|refine Wm (by omega) ?_|refine Bf.N (fun hq => ?_) (fun hq => ?_)|refine Bn ?_|refine Fm rfl ?_)|refine Bt ?_|refine Bu ?_|refine Cl.mk c1 ?_|refine Cl.mk c2 ?_|refine Cl.mk c3 ?_|refine Cl.mk c4 ?_|refine Cl.mk c5 ?_)
  all_goals first
   | exact congrArg (fun z => [B z]) ((by unfold heapS ; rw [e5]; simp))
   |(exfalso; omega)
 cases e6 : mailOk h.Mail <;> rw [e6] at c6
 ·refine fO (n := 150) [(8,10,[67,68,69,70,71,72,73,74,75,76])] Tryz.func26 (by kernel_rfl) rfl (by kernel_rfl) (by rfl) (.inr ⟨trivial, trivial⟩) ?_
  repeat' ((conv=>whnf);first|with_reducible (first|refine Lm ?_|refine Wm (by omega) ?_|refine Bf.N (fun hq => ?_) (fun hq => ?_)|refine Bn ?_|refine Fm rfl ?_)|refine Bt ?_|refine Bu ?_|refine Cl.mk c1 ?_|refine Cl.mk c2 ?_|refine Cl.mk c3 ?_|refine Cl.mk c4 ?_|refine Cl.mk c5 ?_|refine Cl.mk c6 ?_)
  all_goals first
   | exact congrArg (fun z => [B z]) ((by unfold heapS mailCaches; rw [e6]; simp))
   |(exfalso; omega)
 by_cases hcl : h.Caches.length = h.Mail.Buffers.length
 rotate_left
 ·refine fO (n := 150) [(8,10,[67,68,69,70,71,72,73,74,75,76])] Tryz.func26 (by kernel_rfl) rfl (by kernel_rfl) (by rfl) (.inr ⟨trivial, trivial⟩) ?_
  repeat' ((conv=>whnf);first|with_reducible (first|refine Lm ?_|refine Wm (by omega) ?_|refine Bf.N (fun hq => ?_) (fun hq => ?_)|refine Bn ?_|refine Fm rfl ?_)|refine Bt ?_|refine Bu ?_|refine Cl.mk c1 ?_|refine Cl.mk c2 ?_|refine Cl.mk c3 ?_|refine Cl.mk c4 ?_|refine Cl.mk c5 ?_|refine Cl.mk c6 ?_)
  all_goals first
   | exact congrArg (fun z => [B z]) ((by unfold heapS mailCaches; rw [decide_eq_false hcl]; simp))
   |(exfalso; omega)
 cases e7 : quarOk h.Quar <;> rw [e7] at c7
 ·refine fO (n := 150) [(8,10,[67,68,69,70,71,72,73,74,75,76])] Tryz.func26 (by kernel_rfl) rfl (by kernel_rfl) (by rfl) (.inr ⟨trivial, trivial⟩) ?_
  repeat' ((conv=>whnf);first|with_reducible (first|refine Lm ?_|refine Wm (by omega) ?_|refine Bf.N (fun hq => ?_) (fun hq => ?_)|refine Bn ?_|refine Fm rfl ?_)|refine Bt ?_|refine Bu ?_|refine Cl.mk c1 ?_|refine Cl.mk c2 ?_|refine Cl.mk c3 ?_|refine Cl.mk c4 ?_|refine Cl.mk c5 ?_|refine Cl.mk c6 ?_|refine Cl.mk c7 ?_)
  all_goals first
   | exact congrArg (fun z => [B z]) ((by unfold heapS mailCaches; rw [e7]; simp))
   |(exfalso; omega)
 have hlay : layAll h = true := by unfold layAll; rw [e1, e2, e3, e4]; rfl
 have hmc : mailCaches h = true := by unfold mailCaches; rw [e6, decide_eq_true hcl, e7]; rfl
 refine fO (n := 150) [(8,10,[67,68,69,70,71,72,73,74,75,76])] Tryz.func26 (by kernel_rfl) rfl (by kernel_rfl) (by rfl) (.inr ⟨trivial, trivial⟩) ?_
 repeat' ((conv=>whnf);first|with_reducible (first|refine Lm ?_|refine Wm (by omega) ?_|refine dF (by omega) (fun hq => ?_)|refine nT (by omega) (fun hq => ?_)|refine nF (by omega) (fun hq => ?_)|refine Bf.N (fun hq => ?_) (fun hq => ?_)|refine Bn ?_|refine Fm rfl ?_)|refine Bt ?_|refine Bu ?_|refine Cl.mk c1 ?_|refine Cl.mk c2 ?_|refine Cl.mk c3 ?_|refine Cl.mk c4 ?_|refine Cl.mk c5 ?_|refine Cl.mk c6 ?_|refine Cl.mk c7 ?_)
 all_goals try (exfalso; omega)
 (conv=>whnf)
 refine Lp.mk (ι := Nat) (fun i => [(1, .hold .box (DHeap.enc .imm h)), (3, .hold .one [I ((i : Nat) : Int)])]) (fun i => i ≤ h.Quar.Lst.length ∧ (h.Quar.Lst.take i).all (fun x => decide (x.Since ≤ h.Clock)) = true) (fun i => h.Quar.Lst.length - i) (0) ?_ (⟨Nat.zero_le _, rfl⟩) fun i hi => ?_
 ·repeat' (first|exact trivial|rfl|refine And.intro ?_ ?_|(exact wkI (by first|omega|(simp only; omega)|(simp; omega))))
 obtain ⟨hi, ai⟩ := hi
 by_cases li : i < h.Quar.Lst.length
 ·have hx := get_nth li
  repeat' ((conv=>whnf);first|with_reducible (first|refine Lm ?_|refine Wm (by omega) ?_|refine Ix.nat (get_map hx) ?_|refine dT (by omega) (fun hq => ?_)|refine Bf.D (fun hq => ?_) (fun hq => ?_)|refine Bn ?_|refine Fm rfl ?_)|refine Bt ?_|refine Bu ?_)
  all_goals first
   | exact congrArg (fun z => [B z]) ((by unfold heapS sinceOk; rw [all_no hx (decide_eq_false (by omega))]; simp))
   | ((conv=>whnf);refine Nx.mk (i + 1) ⟨by omega, all_yes hx ai (decide_eq_true (by omega))⟩ (by omega) ?_; (repeat' (first|exact trivial|rfl|refine And.intro ?_ ?_|(exact wkI (by first|omega|(simp only; omega)|(simp; omega))))))
 have hsi : sinceOk h = true := all_end (by omega) ai
 repeat' ((conv=>whnf);first|with_reducible (first|refine Lm ?_|refine Wm (by omega) ?_|refine dF (by omega) (fun hq => ?_)|refine Bn ?_|refine Fm rfl ?_)|refine Bt ?_|refine Bu ?_)
 (conv=>whnf)
 refine Lp.mk (ι := Nat) (fun k => [(1, .hold .box (DHeap.enc .imm h)), (4, .hold .one [I ((k : Nat) : Int)])]) (fun k => k ≤ h.Caches.length ∧ (h.Caches.take k).all cacheOk = true) (fun k => h.Caches.length - k) (0) ?_ (⟨Nat.zero_le _, rfl⟩) fun k hk => ?_
 ·repeat' (first|exact trivial|rfl|refine And.intro ?_ ?_|(exact wkI (by first|omega|(simp only; omega)|(simp; omega))))
 obtain ⟨hk, ak⟩ := hk
 by_cases lk : k < h.Caches.length
 ·have hx := get_nth lk
  have c8 := CacheOk_spec (nth h.Caches k) (hsc.2 _ (nth_mem lk))
  cases e8 : cacheOk (nth h.Caches k) <;> rw [e8] at c8
  ·repeat' ((conv=>whnf);first|with_reducible (first|refine Lm ?_|refine Wm (by omega) ?_|refine Ix.nat (get_map hx) ?_|refine dT (by omega) (fun hq => ?_)|refine Bn ?_|refine Fm rfl ?_)|refine Bt ?_|refine Bu ?_|refine Cl.mk c8 ?_)
   exact congrArg (fun z => [B z]) ((by unfold heapS; rw [all_no hx e8]; simp))
  ·repeat' ((conv=>whnf);first|with_reducible (first|refine Lm ?_|refine Wm (by omega) ?_|refine Ix.nat (get_map hx) ?_|refine dT (by omega) (fun hq => ?_)|refine Bn ?_|refine Fm rfl ?_)|refine Bt ?_|refine Bu ?_|refine Cl.mk c8 ?_)
   ((conv=>whnf);refine Nx.mk (k + 1) ⟨by omega, all_yes hx ak e8⟩ (by omega) ?_; (repeat' (first|exact trivial|rfl|refine And.intro ?_ ?_|(exact wkI (by first|omega|(simp only; omega)|(simp; omega))))))
 have hca : h.Caches.all cacheOk = true := all_end (by omega) ak
 have c9 := l27Objs_ok h hs1 hs2 e3 hlo hlc (fun o ho => (hwo.2 o ho).2.1)
 have c10 := l27Once_ok h hsA hwA e3 e6 (List.all_eq_true.1 hca)
 have c11 := l27Job_ok h.Job hsj
 have c12 := JobOk_spec h.Job hsj
 have c13 := SpanOn_spec h h.Job.Plan.Keep hs1.1
 have c14 := SpanOn_spec h h.Job.Plan.Move hs1.1
 by_cases hn : numsOk h = true
 rotate_left
 ·have hn2 : numsOk h = false := by simpa using hn
  have hn' := hn2
  unfold numsOk at hn'
  rw [decide_eq_false_iff_not] at hn'
  cases e9 : objsAll h <;> rw [e9] at c9 <;> cases e10 : onceS h <;> rw [e10] at c10
  all_goals
   repeat' ((conv=>whnf);first|with_reducible (first|refine Lm ?_|refine Wm (by omega) ?_|refine dF (by omega) (fun hq => ?_)|refine Bf.D (fun hq => ?_) (fun hq => ?_)|refine Bn ?_|refine Fm rfl ?_)|refine Bt ?_|refine Bu ?_|refine Cl.mk (l01In_ok _ _ _) ?_|refine Cl.mk c9 ?_|refine Cl.mk c10 ?_)
   all_goals first
    | exact congrArg (fun z => [B z]) ((by unfold heapS; rw [hn2]; simp))
    |(exfalso; omega)
 have hn' := hn
 unfold numsOk at hn'
 rw [decide_eq_true_eq] at hn'
 cases e9 : objsAll h <;> rw [e9] at c9
 ·repeat' ((conv=>whnf);first|with_reducible (first|refine Lm ?_|refine Wm (by omega) ?_|refine dF (by omega) (fun hq => ?_)|refine dT (by omega) (fun hq => ?_)|refine dF (by omega) (fun hq => ?_)|refine Bf.D (fun hq => ?_) (fun hq => ?_)|refine Bn ?_|refine Fm rfl ?_)|refine Bt ?_|refine Bu ?_|refine Cl.mk (l01In_ok _ _ _) ?_|refine Cl.mk c9 ?_)
  all_goals first
   | exact congrArg (fun z => [B z]) ((by unfold heapS; rw [e9]; simp))
   |(exfalso; omega)
 cases e10 : onceS h <;> rw [e10] at c10
 ·repeat' ((conv=>whnf);first|with_reducible (first|refine Lm ?_|refine Wm (by omega) ?_|refine dF (by omega) (fun hq => ?_)|refine dT (by omega) (fun hq => ?_)|refine dF (by omega) (fun hq => ?_)|refine Bf.D (fun hq => ?_) (fun hq => ?_)|refine Bn ?_|refine Fm rfl ?_)|refine Bt ?_|refine Bu ?_|refine Cl.mk (l01In_ok _ _ _) ?_|refine Cl.mk c9 ?_|refine Cl.mk c10 ?_)
  all_goals first
   | exact congrArg (fun z => [B z]) ((by unfold heapS; rw [e10]; simp))
   |(exfalso; omega)
 have hfin : heapS h = jobAt h := by unfold heapS; rw [hlay, e5, hmc, hsi, hca, hn, e9, e10]; rfl
 rw [hfin]
 unfold jobAt
 cases em : h.Meshing
 ·repeat' ((conv=>whnf);first|with_reducible (first|refine Lm ?_|refine Wm (by omega) ?_|refine dF (by omega) (fun hq => ?_)|refine dT (by omega) (fun hq => ?_)|refine dF (by omega) (fun hq => ?_)|refine Bf.D (fun hq => ?_) (fun hq => ?_)|refine Bn ?_|refine Fm rfl ?_)|refine Bt ?_|refine Bu ?_|refine Cl.mk (l01In_ok _ _ _) ?_|refine Cl.mk c9 ?_|refine Cl.mk c10 ?_|refine Cl.mk c11 ?_|refine Bf.f em ?_)
  all_goals first
   |rfl
   | exact congrArg (fun z => [B z]) ((by simp; done))
   |(exfalso; omega)
 ·cases e12 : jobOk h.Job <;> rw [e12] at c12
  all_goals
   repeat' ((conv=>whnf);first|with_reducible (first|refine Lm ?_|refine Wm (by omega) ?_|refine dF (by omega) (fun hq => ?_)|refine dT (by omega) (fun hq => ?_)|refine dF (by omega) (fun hq => ?_)|refine Bf.D (fun hq => ?_) (fun hq => ?_)|refine Bf.D (fun hq => ?_) (fun hq => ?_)|refine Bn ?_|refine Fm rfl ?_)|refine Bt ?_|refine Bu ?_|refine Cl.mk (l01In_ok _ _ _) ?_|refine Cl.mk c9 ?_|refine Cl.mk c10 ?_|refine Cl.mk c12 ?_|refine Cl.mk c13 ?_|refine Cl.mk c14 ?_|refine Bf.t em ?_)
   all_goals first
    | exact congrArg (fun z => [B z]) ((by grind))
    |(exfalso; omega)
end Go.Proofs.YtogajjgmcnjkbaaGreat.Ab
