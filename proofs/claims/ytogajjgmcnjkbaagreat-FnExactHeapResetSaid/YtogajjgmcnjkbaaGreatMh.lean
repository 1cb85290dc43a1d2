/- The pages of a heap: the contracts of l27Pages, l27Meshed (the reference's) and pagesOk (the program's). No condition. -/
import Derived.Test.YtogajjgmcnjkbaaGreatMg
import Derived.Test.YtogajjgmcnjkbaaGreatMe

namespace Go.Proofs.YtogajjgmcnjkbaaGreat.Ab
open Go.RowKit
set_option maxRecDepth 20000
set_option maxHeartbeats 8000000
theorem layoutOk_facts {sp : List DSpan} {la : List DLarge} (h : layoutOk sp la = true) : sp.all spanOk = true ∧ la.all largeOk = true ∧ (pgs sp la).Nodup := by
 unfold layoutOk at h; simp only [Bool.and_eq_true, decide_eq_true_eq] at h; exact ⟨h.1.1, h.1.2, h.2⟩
theorem all_nth {α : Type} [Inhabited α] {xs : List α} {p : α → Bool} {i : Nat} (h : xs.all p = true) (hi : i < xs.length) : p (nth xs i) = true := List.all_eq_true.1 h _ (nth_mem hi)
theorem pages0_1 {h : DHeap} (h1 : allN h.Spans.length (sortS h.Spans) = false) : pages0 h = false := by unfold pages0; rw [h1]; rfl
theorem pages0_2 {h : DHeap} (h1 : allN h.Larges.length (lgAt h) = false) : pages0 h = false := by unfold pages0; rw [h1]; simp
theorem pages0_3 {h : DHeap} {p : Int} (h1 : p ∈ pgs h.Spans h.Larges) (h2 : ¬ p < pgN h) : pages0 h = false := by
 have : ((pgs h.Spans h.Larges).all fun p => decide (p < pgN h)) = false := List.all_eq_false.2 ⟨p, h1, by simpa using h2⟩
 unfold pages0; rw [this]; simp
theorem pages0_4 {h : DHeap} (h1 : allN (pgN h) (pgAt h) = false) : pages0 h = false := by unfold pages0; rw [h1]; simp
theorem pages0_end {h : DHeap} (h1 : allN h.Spans.length (sortS h.Spans) = true) (h2 : allN h.Larges.length (lgAt h) = true) (h3 : ∀ p ∈ pgs h.Spans h.Larges, p < pgN h) (h4 : allN (pgN h) (pgAt h) = true) : pages0 h = true := by
 have : ((pgs h.Spans h.Larges).all fun p => decide (p < pgN h)) = true := List.all_eq_true.2 fun p hp => decide_eq_true (h3 p hp)
 unfold pages0; rw [h1, h2, h4, this]; rfl
theorem lgAt_1 {h : DHeap} {i : Nat} (h1 : sortL h.Larges i = false) : lgAt h i = false := by unfold lgAt; rw [h1]; rfl
theorem lgAt_2 {h : DHeap} {i k : Nat} (hk : k < (nth h.Larges i).Pages.toNat) (h1 : onePg h (nth h.Larges i) k = false) : lgAt h i = false := by unfold lgAt; rw [allN_no hk h1]; simp
theorem lgAt_yes {h : DHeap} {i : Nat} (h1 : sortL h.Larges i = true) (h2 : allN (nth h.Larges i).Pages.toNat (onePg h (nth h.Larges i)) = true) : lgAt h i = true := by unfold lgAt; rw [h1, h2]; rfl
theorem framePages_le (h : DHeap) (p : Int) : (framePages h p).length ≤ pgN h := by
 unfold framePages; split
 ·simp
 ·exact pagesOn_le ..
theorem pgs_bound {sp : List DSpan} {la : List DLarge} (h : layoutOk sp la = true) {i : Nat} {l : DLarge} (hx : la[i]? = some l) : 1 ≤ l.Pages ∧ l.Pages ≤ 63 ∧ 0 ≤ l.Page ∧ l.Page ≤ 31 :=
 largeOk_pages (List.all_eq_true.1 (layoutOk_facts h).2.1 l (List.mem_of_getElem? hx))
theorem l27Pages_ok (h : DHeap) (hs1 : smlDSpanS h.Spans) (hs2 : smlDLargeS h.Larges) (hst : smlT h) (hsf : smlDRangeS h.Free) (hlay : layoutOk h.Spans h.Larges = true) : CallsA Tryz.prog 92 false [.val (some 24) (DHeap.enc .imm h)] .one [B (pages0 h)] := by
 have hl1 := hs1.1
 have hl2 := hs2.1
 have hl3 : pgN h ≤ 1048576 := hst.1
 have hl4 := hsf.1
 refine fO (n := 144) [(7,18,[28,29,30,31,32,33,34,35,36,37,38,39,40,41,42,43,44,45]),(13,18,[62,63,64,65,66,67,68,69,70,71,72,73,74,75,76,77,78,79])] Tryz.func92 (by kernel_rfl) rfl (by kernel_rfl) (by rfl) (.inr ⟨trivial, trivial⟩) ?_
 repeat' ((conv=>whnf);first|with_reducible (first|refine Lm ?_|refine Wm (by omega) ?_|refine Bn ?_|refine Fm rfl ?_)|refine Bt ?_|refine Bu ?_)
 (conv=>whnf)
 refine Lp.mk (ι := Nat × List Int) (fun i => [(1, .hold .box (DHeap.enc .imm h)), (3, .hold .box (DTable.enc .imm (tbl h))), (4, .hold .one [I (pgN h)]), (5, .hold .one (rIntS .own i.2)), (6, .hold .one [I ((i.1 : Nat) : Int)])]) (fun i => i.1 ≤ h.Spans.length ∧ i.2 = (h.Spans.take i.1).map (·.Page) ∧ allN i.1 (sortS h.Spans) = true) (fun i => h.Spans.length - i.1) ((0, [])) ?_ (⟨Nat.zero_le _, rfl, rfl⟩) fun i hi => ?_
 ·repeat' (first|exact trivial|rfl|refine And.intro ?_ ?_)
 obtain ⟨i, S⟩ := i
 obtain ⟨hi, hS, ai⟩ := hi
 simp only at hi hS ai ⊢
 have hSl : S.length = i := by rw [hS, List.length_map, List.length_take]; omega
 by_cases li : i < h.Spans.length
 ·have hx := get_nth li
  repeat' ((conv=>whnf);first|with_reducible (first|refine Lm ?_|refine Wm (by omega) ?_|refine Ix.nat (get_map hx) ?_|refine dT (by omega) (fun hq => ?_)|refine Bf.D (fun hq => ?_) (fun hq => ?_)|refine Bn ?_|refine Fm rfl ?_)|refine Bt ?_|refine Bu ?_|refine Ix.mk (by omega) (get_map (get_pre (by omega) li)) ?_|refine Ap.mk rowI_one (fun r hr => by rw [List.mem_singleton.1 hr]; rfl) (by simp [noOwn, isOwn]) (by simp; omega) (by simp only [List.length_map]; exact mkB (by simp; omega) (by decide)) rfl ?_)
  all_goals first
   | exact congrArg (fun z => [B z]) ((pages0_1 (allN_no li (decide_eq_false (by omega)))).symm)
   | ((conv=>whnf)
      refine Nx.mk (i + 1, S ++ [(nth h.Spans i).Page]) ⟨(by simp only; omega), (by simp only; rw [hS, List.take_add_one, hx]; simp), allN_yes ai (decide_eq_true (by omega))⟩ (by simp only; omega) ?_
      (repeat' (first|exact trivial|rfl|exact And.intro rfl (And.intro (congrArg (C.s Own.own) (by simp [rI])) trivial)|refine And.intro ?_ ?_)))
 ·obtain rfl : i = h.Spans.length := by omega
  rw [List.take_length] at hS
  repeat' ((conv=>whnf);first|with_reducible (first|refine Lm ?_|refine Wm (by omega) ?_|refine dF (by omega) (fun hq => ?_)|refine Bn ?_|refine Fm rfl ?_)|refine Bt ?_|refine Bu ?_)
  (conv=>whnf)
  refine Lp.mk (ι := Nat × List Int) (fun k => [(1, .hold .box (DHeap.enc .imm h)), (3, .hold .box (DTable.enc .imm (tbl h))), (4, .hold .one [I (pgN h)]), (5, .hold .one (rIntS .own k.2)), (7, .hold .one [I ((k.1 : Nat) : Int)])]) (fun k => k.1 ≤ h.Larges.length ∧ k.2 = pgs h.Spans (h.Larges.take k.1) ∧ allN k.1 (lgAt h) = true ∧ k.2.length ≤ 1048576 + 64 * k.1) (fun k => h.Larges.length - k.1) ((0, S)) ?_ (⟨Nat.zero_le _, by rw [hS]; unfold pgs; simp, rfl, by simp only; omega⟩) fun k hk => ?_
  ·repeat' (first|exact trivial|rfl|refine And.intro ?_ ?_)
  obtain ⟨k, S2⟩ := k
  obtain ⟨hk, hS2, ak, hb2⟩ := hk
  simp only at hk hS2 ak hb2 ⊢
  by_cases lk : k < h.Larges.length
  ·have hx := get_nth lk
   have hpg := pgs_bound hlay hx
   repeat' ((conv=>whnf);first|with_reducible (first|refine Lm ?_|refine Wm (by omega) ?_|refine Ix.nat (get_map hx) ?_|refine dT (by omega) (fun hq => ?_)|refine Bf.D (fun hq => ?_) (fun hq => ?_)|refine Bn ?_|refine Fm rfl ?_)|refine Bt ?_|refine Bu ?_|refine Ix.mk (by omega) (get_map (get_pre (by omega) lk)) ?_)
   all_goals first
    | exact congrArg (fun z => [B z]) ((pages0_2 (allN_no lk (lgAt_1 (decide_eq_false (by omega))))).symm)
    |have hsort : sortL h.Larges k = true := decide_eq_true (by omega)
     (conv=>whnf)
     refine Lp.mk (ι := Nat × List Int) (fun q => [(1, .hold .box (DHeap.enc .imm h)), (3, .hold .box (DTable.enc .imm (tbl h))), (4, .hold .one [I (pgN h)]), (5, .hold .one (rIntS .own q.2)), (7, .hold .one [I ((k : Nat) : Int)]), (8, .hold .one [I ((q.1 : Nat) : Int)])]) (fun q => q.1 ≤ (nth h.Larges k).Pages.toNat ∧ q.2 = S2 ++ lpgs (nth h.Larges k) q.1 ∧ allN q.1 (onePg h (nth h.Larges k)) = true) (fun q => (nth h.Larges k).Pages.toNat - q.1) ((0, S2)) ?_ (⟨Nat.zero_le _, by simp [lpgs], rfl⟩) fun q hq => ?_
     ·repeat' (first|exact trivial|rfl|refine And.intro ?_ ?_)
     obtain ⟨q, S3⟩ := q
     obtain ⟨hq1, hS3, aq⟩ := hq
     simp only at hq1 hS3 aq ⊢
     have hl3' : S3.length = S2.length + q := by rw [hS3, List.length_append, lpgs_len]
     by_cases lq : q < (nth h.Larges k).Pages.toNat
     ·have hfl := framePages_le h ((nth h.Larges k).Page + (q : Nat))
      repeat' ((conv=>whnf);first|with_reducible (first|refine Lm ?_|refine Wm (by omega) ?_|refine Ix.nat (get_map hx) ?_|refine dT (by omega) (fun hq => ?_)|refine Bf.N (fun hq => ?_) (fun hq => ?_)|refine Bn ?_|refine Fm rfl ?_)|refine Bt ?_|refine Bu ?_|refine Cl.mk (FramePages_spec h _ hst) ?_|refine Ap.mk rowI_one (fun r hr => by rw [List.mem_singleton.1 hr]; rfl) (by simp [noOwn, isOwn]) (by simp; omega) (by show _ * 8 ≤ _; simp; omega) rfl ?_)
      all_goals first
       | exact congrArg (fun z => [B z]) ((pages0_2 (allN_no lk (lgAt_2 lq (decide_eq_false (by omega))))).symm)
       | ((conv=>whnf)
          refine Nx.mk (q + 1, S3 ++ [(nth h.Larges k).Page + (q : Nat)]) ⟨(by simp only; omega), (by simp only; rw [hS3, lpgs_succ, List.append_assoc]), allN_yes aq (decide_eq_true (by omega))⟩ (by simp only; omega) ?_
          (repeat' (first|exact trivial|rfl|exact And.intro rfl (And.intro (congrArg (C.s Own.own) (by simp [rI])) trivial)|refine And.intro ?_ ?_)))
     ·obtain rfl : q = (nth h.Larges k).Pages.toNat := by omega
      repeat' ((conv=>whnf);first|with_reducible (first|refine Lm ?_|refine Wm (by omega) ?_|refine Ix.nat (get_map hx) ?_|refine dF (by omega) (fun hq => ?_)|refine Bn ?_|refine Fm rfl ?_)|refine Bt ?_|refine Bu ?_)
      ((conv=>whnf);refine Nx.mk (k + 1, S3) ⟨(by simp only; omega), (by simp only; rw [hS3, hS2, ← pgs_take _ hx]), allN_yes ak (lgAt_yes hsort aq), (by simp only; omega)⟩ (by simp only; omega) ?_; (repeat' (first|exact trivial|rfl|refine And.intro ?_ ?_)))
  ·obtain rfl : k = h.Larges.length := by omega
   rw [List.take_length] at hS2
   repeat' ((conv=>whnf);first|with_reducible (first|refine Lm ?_|refine Wm (by omega) ?_|refine dF (by omega) (fun hq => ?_)|refine Bn ?_|refine Fm rfl ?_)|refine Bt ?_|refine Bu ?_)
   (conv=>whnf)
   refine Lp.mk (ι := Nat) (fun q => [(1, .hold .box (DHeap.enc .imm h)), (3, .hold .box (DTable.enc .imm (tbl h))), (4, .hold .one [I (pgN h)]), (5, .hold .one (rIntS .own S2)), (10, .hold .one [I ((q : Nat) : Int)])]) (fun q => q ≤ S2.length ∧ ∀ j, j < q → nth S2 j < pgN h) (fun q => S2.length - q) (0) ?_ (⟨Nat.zero_le _, fun j hj => by omega⟩) fun q hq => ?_
   ·repeat' (first|exact trivial|rfl|refine And.intro ?_ ?_)
   obtain ⟨hq, aq⟩ := hq
   by_cases lq : q < S2.length
   ·have hx := get_nth lq
    repeat' ((conv=>whnf);first|with_reducible (first|refine Lm ?_|refine Wm (by omega) ?_|refine Ix.nat (get_map hx) ?_|refine dT (by omega) (fun hq => ?_)|refine Bf.D (fun hq => ?_) (fun hq => ?_)|refine Bn ?_|refine Fm rfl ?_)|refine Bt ?_|refine Bu ?_|refine Rw.one rfl (get_map hx) rfl ?_)
    all_goals first
     | exact congrArg (fun z => [B z]) ((pages0_3 (by rw [← hS2]; exact nth_mem lq) (by omega)).symm)
     | ((conv=>whnf);refine Nx.mk (q + 1) ⟨by omega, fun j hj => by rcases Nat.lt_or_ge j q with h1|h1; exact aq j h1; (obtain rfl : j = q := by omega); omega⟩ (by omega) ?_; (repeat' (first|exact trivial|rfl|refine And.intro ?_ ?_)))
   ·have hall : ∀ p ∈ pgs h.Spans h.Larges, p < pgN h := fun p hp => by
     rw [← hS2] at hp
     obtain ⟨j, hj⟩ := List.mem_iff_getElem?.1 hp
     have h1 := (List.getElem?_eq_some_iff.1 hj).1
     have := aq j (by omega)
     rwa [nth_of hj] at this
    repeat' ((conv=>whnf);first|with_reducible (first|refine Lm ?_|refine Wm (by omega) ?_|refine dF (by omega) (fun hq => ?_)|refine Bn ?_|refine Fm rfl ?_)|refine Bt ?_|refine Bu ?_)
    (conv=>whnf)
    refine Lp.mk (ι := Nat) (fun p => [(1, .hold .box (DHeap.enc .imm h)), (3, .hold .box (DTable.enc .imm (tbl h))), (4, .hold .one [I (pgN h)]), (5, .hold .one (rIntS .own S2)), (11, .hold .one [I ((p : Nat) : Int)])]) (fun p => p ≤ pgN h ∧ allN p (pgAt h) = true) (fun p => pgN h - p) 0 ?_ ⟨Nat.zero_le _, rfl⟩ fun p hp => ?_
    ·repeat' (first|exact trivial|rfl|refine And.intro ?_ ?_)
    obtain ⟨hp, ap⟩ := hp
    by_cases lp : p < pgN h
    ·have hx := get_nth (xs := (tbl h).Entries) lp
     have hr := RangeHas_spec h.Free (p : Nat) (by omega)
     repeat' ((conv=>whnf);first|with_reducible (first|refine Lm ?_|refine Wm (by omega) ?_|refine Ix.nat (get_map hx) ?_|refine dT (by omega) (fun hq => ?_)|refine Bf.D (fun hq => ?_) (fun hq => ?_)|refine Bf.NB (fun hq => ?_) (fun hq => ?_)|refine Bn ?_|refine Fm rfl ?_)|refine Bt ?_|refine Bu ?_|refine Cl.eq (l08Has_ok S2 _ (by omega)) ⟨⟨rfl, rIntS_fz _⟩, ⟨rfl, rfl⟩, trivial⟩ ?_|refine Cl.mk hr ?_|refine Bf.P (fun hq => ?_) (fun hq => ?_))
     all_goals first
      | exact congrArg (fun z => [B z]) ((pages0_4 (allN_no lp (by unfold pgAt; rw [← hS2]; grind))).symm)
      | ((conv=>whnf);refine Nx.mk (p + 1) ⟨by omega, allN_yes ap (by unfold pgAt; rw [← hS2]; grind)⟩ (by omega) ?_; (repeat' (first|exact trivial|rfl|refine And.intro ?_ ?_)))
    ·repeat' ((conv=>whnf);first|with_reducible (first|refine Lm ?_|refine Wm (by omega) ?_|refine dF (by omega) (fun hq => ?_)|refine Bn ?_|refine Fm rfl ?_)|refine Bt ?_|refine Bu ?_)
     obtain rfl : p = pgN h := by omega
     exact congrArg (fun z => [B z]) ((pages0_end ai ak hall ap).symm)
end Go.Proofs.YtogajjgmcnjkbaaGreat.Ab
/- The pages of a heap, as the program asks it: the contract of pagesOk; spans on one frame, as the reference asks it: l27Meshed. No condition. -/
namespace Go.Proofs.YtogajjgmcnjkbaaGreat.Ab
open Go.RowKit
set_option maxRecDepth 20000
set_option maxHeartbeats 8000000
theorem wkI {z1 z2 : Int} (h : z1 = z2) : wkC (I z1) (I z2) := by subst h; rfl
theorem mem_ins {S : List Int} {p z : Int} : z ∈ ins S p ↔ z ∈ S ∨ z = p := by
 unfold ins
 split
 ·rename_i hp
  exact ⟨.inl, fun h => h.elim id fun e => e ▸ hp⟩
 ·simp
theorem seenM_keys (S : List Int) : (seenM S).map (·.1) = S := by unfold seenM; rw [List.map_map]; simp [Function.comp_def]
theorem pageEntry_nat {t : DTable} {p : Nat} (hp : p < t.Entries.length) : pageEntry t (p : Nat) = nth t.Entries p := by
 unfold pageEntry; rw [if_pos (by omega)]; simp
theorem pagesOk_impl (h : DHeap) (hs1 : smlDSpanS h.Spans) (hs2 : smlDLargeS h.Larges) (hst : smlT h) (hsf : smlDRangeS h.Free) (hlay : layoutOk h.Spans h.Larges = true) : CallsA Tryz.prog 122 false [.val (some 24) (DHeap.enc .imm h)] .one [B (pages0 h && meshI h)] := by
 have hl1 := hs1.1
 have hl2 := hs2.1
 have hl3 : pgN h ≤ 1048576 := hst.1
 have hl4 := hsf.1
 have hno : pages0 h = false → [B false] = [B (pages0 h && meshI h)] := fun e => by rw [e]; rfl
 refine fO (n := 177) [(4,14,[25,26,27,28,29,30,31,32,33,34,35,36,37,38]),(16,14,[60,61,62,63,64,65,66,67,68,69,70,71,72,73]),(28,18,[102,103,104,105,106,107,108,109,110,111,112,113,114,115,116,117,118,119]),(42,23,[152,153,154,155,156,157,158,159,160,161,162,163,164,165,166,167,168,169,170,171,172,173,174])] Tryz.func122 (by kernel_rfl) rfl (by kernel_rfl) (by rfl) (.inr ⟨trivial, trivial⟩) ?_
 repeat' ((conv=>whnf);first|with_reducible (first|refine Lm ?_|refine Wm (by omega) ?_|refine Bn ?_|refine Fm rfl ?_)|refine Bt ?_|refine Bu ?_)
 (conv=>whnf)
 refine Lp.mk (ι := Nat) (fun i => [(1, .hold .box (DHeap.enc .imm h)), (18, .hold .one (rDSpanS .imm h.Spans)), (19, .hold .one [I (h.Spans.length)]), (20, .hold .one [I ((i : Nat) : Int)])]) (fun i => i ≤ h.Spans.length ∧ allN i (sortS h.Spans) = true) (fun i => h.Spans.length - i) 0 ?_ ⟨Nat.zero_le _, rfl⟩ fun i hi => ?_
 ·repeat' (first|exact trivial|rfl|refine And.intro ?_ ?_|(exact wkI (by first|omega|(simp only; omega)|(simp; omega))))
 obtain ⟨hi, ai⟩ := hi
 by_cases li : i < h.Spans.length
 ·have hx := get_nth li
  repeat' ((conv=>whnf);first|with_reducible (first|refine Lm ?_|refine Wm (by omega) ?_|refine Ix.nat (get_map hx) ?_|refine dT (by omega) (fun hq => ?_)|refine Bf.D (fun hq => ?_) (fun hq => ?_)|refine Bn ?_|refine Fm rfl ?_)|refine Bt ?_|refine Bu ?_|refine Ix.mk (by omega) (get_map (get_pre (by omega) li)) ?_)
  all_goals first
   |exact hno (pages0_1 (allN_no li (decide_eq_false (by omega))))
   | ((conv=>whnf);refine Nx.mk (i + 1) ⟨by omega, allN_yes ai (decide_eq_true (by omega))⟩ (by omega) ?_; (repeat' (first|exact trivial|rfl|refine And.intro ?_ ?_|(exact wkI (by first|omega|(simp only; omega)|(simp; omega))))))
 obtain rfl : i = h.Spans.length := by omega
 repeat' ((conv=>whnf);first|with_reducible (first|refine Lm ?_|refine Wm (by omega) ?_|refine dF (by omega) (fun hq => ?_)|refine Bn ?_|refine Fm rfl ?_)|refine Bt ?_|refine Bu ?_)
 (conv=>whnf)
 refine Lp.mk (ι := Nat × List Int) (fun i => [(1, .hold .box (DHeap.enc .imm h)), (5, .hold .one [.m (seenM i.2)]), (42, .hold .one (rDSpanS .imm h.Spans)), (43, .hold .one [I (h.Spans.length)]), (44, .hold .one [I ((i.1 : Nat) : Int)])]) (fun i => i.1 ≤ h.Spans.length ∧ ∀ z, z ∈ i.2 ↔ z ∈ (h.Spans.take i.1).map (·.Page)) (fun i => h.Spans.length - i.1) ((0, [])) ?_ (⟨Nat.zero_le _, fun z => Iff.rfl⟩) fun i hi => ?_
 ·repeat' (first|exact trivial|rfl|refine And.intro ?_ ?_|(exact wkI (by first|omega|(simp only; omega)|(simp; omega))))
 obtain ⟨i, S⟩ := i
 obtain ⟨hi2, hS⟩ := hi
 simp only at hi2 hS ⊢
 by_cases li2 : i < h.Spans.length
 ·have hx := get_nth li2
  repeat' ((conv=>whnf);first|with_reducible (first|refine Lm ?_|refine Wm (by omega) ?_|refine Ix.nat (get_map hx) ?_|refine dT (by omega) (fun hq => ?_)|refine Bn ?_|refine Fm rfl ?_)|refine Bt ?_|refine Bu ?_|refine Mu.mk (mput_ins S _) ?_)
  ((conv=>whnf);refine Nx.mk (i + 1, ins S (nth h.Spans i).Page) ⟨(by simp only; omega), fun z => by simp only [mem_ins, hS]; rw [List.take_add_one, hx]; simp⟩ (by simp only; omega) ?_; (repeat' (first|exact trivial|rfl|refine And.intro ?_ ?_|(exact wkI (by first|omega|(simp only; omega)|(simp; omega))))))
 obtain rfl : i = h.Spans.length := by omega
 rw [List.take_length] at hS
 repeat' ((conv=>whnf);first|with_reducible (first|refine Lm ?_|refine Wm (by omega) ?_|refine dF (by omega) (fun hq => ?_)|refine Bn ?_|refine Fm rfl ?_)|refine Bt ?_|refine Bu ?_)
 (conv=>whnf)
 refine Lp.mk (ι := Nat × List Int) (fun k => [(1, .hold .box (DHeap.enc .imm h)), (5, .hold .one [.m (seenM k.2)]), (53, .hold .one (rDLargeS .imm h.Larges)), (54, .hold .one [I (h.Larges.length)]), (55, .hold .one [I ((k.1 : Nat) : Int)])]) (fun k => k.1 ≤ h.Larges.length ∧ (∀ z, z ∈ k.2 ↔ z ∈ pgs h.Spans (h.Larges.take k.1)) ∧ allN k.1 (lgAt h) = true) (fun k => h.Larges.length - k.1) ((0, S)) ?_ (⟨Nat.zero_le _, fun z => by simp only [hS]; unfold pgs; simp, rfl⟩) fun k hk => ?_
 ·repeat' (first|exact trivial|rfl|refine And.intro ?_ ?_|(exact wkI (by first|omega|(simp only; omega)|(simp; omega))))
 obtain ⟨k, S2⟩ := k
 obtain ⟨hk, hS2, ak⟩ := hk
 simp only at hk hS2 ak ⊢
 by_cases lk : k < h.Larges.length
 ·have hx := get_nth lk
  have hpg := pgs_bound hlay hx
  repeat' ((conv=>whnf);first|with_reducible (first|refine Lm ?_|refine Wm (by omega) ?_|refine Ix.nat (get_map hx) ?_|refine dT (by omega) (fun hq => ?_)|refine Bf.D (fun hq => ?_) (fun hq => ?_)|refine Bn ?_|refine Fm rfl ?_)|refine Bt ?_|refine Bu ?_|refine Ix.mk (by omega) (get_map (get_pre (by omega) lk)) ?_)
  all_goals first
   |exact hno (pages0_2 (allN_no lk (lgAt_1 (decide_eq_false (by omega)))))
   |have hsort : sortL h.Larges k = true := decide_eq_true (by omega)
    (conv=>whnf)
    refine Lp.mk (ι := Nat × List Int) (fun q => [(1, .hold .box (DHeap.enc .imm h)), (5, .hold .one [.m (seenM q.2)]), (9, .hold .box (DLarge.enc .imm (nth h.Larges k))), (10, .hold .one [I ((nth h.Larges k).Page + (q.1 : Nat))]), (53, .hold .one (rDLargeS .imm h.Larges)), (54, .hold .one [I (h.Larges.length)]), (55, .hold .one [I ((k : Nat) : Int)])]) (fun q => q.1 ≤ (nth h.Larges k).Pages.toNat ∧ (∀ z, z ∈ q.2 ↔ z ∈ S2 ++ lpgs (nth h.Larges k) q.1) ∧ allN q.1 (onePg h (nth h.Larges k)) = true) (fun q => (nth h.Larges k).Pages.toNat - q.1) ((0, S2)) ?_ (⟨Nat.zero_le _, fun z => by simp [lpgs], rfl⟩) fun q hq => ?_
    ·repeat' (first|exact trivial|rfl|refine And.intro ?_ ?_|(exact wkI (by first|omega|(simp only; omega)|(simp; omega))))
    obtain ⟨q, S3⟩ := q
    obtain ⟨hq1, hS3, aq⟩ := hq
    simp only at hq1 hS3 aq ⊢
    by_cases lq : q < (nth h.Larges k).Pages.toNat
    ·have hfl := framePages_le h ((nth h.Larges k).Page + (q : Nat))
     repeat' ((conv=>whnf);first|with_reducible (first|refine Lm ?_|refine Wm (by omega) ?_|refine dT (by omega) (fun hq => ?_)|refine Bf.N (fun hq => ?_) (fun hq => ?_)|refine Bn ?_|refine Fm rfl ?_)|refine Bt ?_|refine Bu ?_|refine Cl.mk (FramePages_impl h _ hst) ?_|refine Mu.mk (mput_ins S3 _) ?_)
     all_goals first
      |exact hno (pages0_2 (allN_no lk (lgAt_2 lq (decide_eq_false (by omega)))))
      | ((conv=>whnf)
         refine Nx.mk (q + 1, ins S3 ((nth h.Larges k).Page + (q : Nat))) ⟨(by simp only; omega), fun z => by simp only [mem_ins, hS3]; rw [lpgs_succ]; simp [or_assoc], allN_yes aq (decide_eq_true (by omega))⟩ (by simp only; omega) ?_
         (repeat' (first|exact trivial|rfl|refine And.intro ?_ ?_|exact wkI (by simp; omega))))
    ·obtain rfl : q = (nth h.Larges k).Pages.toNat := by omega
     repeat' ((conv=>whnf);first|with_reducible (first|refine Lm ?_|refine Wm (by omega) ?_|refine dF (by omega) (fun hq => ?_)|refine Bn ?_|refine Fm rfl ?_)|refine Bt ?_|refine Bu ?_)
     ((conv=>whnf);refine Nx.mk (k + 1, S3) ⟨(by simp only; omega), (fun z => by simp only [hS3]; rw [pgs_take _ hx]; simp [hS2]), allN_yes ak (lgAt_yes hsort aq)⟩ (by simp only; omega) ?_; (repeat' (first|exact trivial|rfl|refine And.intro ?_ ?_|(exact wkI (by first|omega|(simp only; omega)|(simp; omega))))))
 obtain rfl : k = h.Larges.length := by omega
 rw [List.take_length] at hS2
 repeat' ((conv=>whnf);first|with_reducible (first|refine Lm ?_|refine Wm (by omega) ?_|refine dF (by omega) (fun hq => ?_)|refine Bn ?_|refine Fm rfl ?_)|refine Bt ?_|refine Bu ?_)
 (conv=>whnf)
 refine Lp.mk (ι := Nat) (fun p => [(1, .hold .box (DHeap.enc .imm h)), (5, .hold .one [.m (seenM S2)]), (98, .hold .one [I (pgN h)]), (99, .hold .one [I ((p : Nat) : Int)])]) (fun p => p ≤ pgN h ∧ allN p (pgAt h) = true) (fun p => pgN h - p) 0 ?_ ⟨Nat.zero_le _, rfl⟩ fun p hp => ?_
 ·repeat' (first|exact trivial|rfl|refine And.intro ?_ ?_|(exact wkI (by first|omega|(simp only; omega)|(simp; omega))))
 obtain ⟨hp, ap⟩ := hp
 by_cases lp : p < pgN h
 ·have hr := RangeHas_impl h.Free (p : Nat) (by omega)
  have hm := mapped_impl h.Kernel (p : Nat) hst
  rw [pageEntry_nat lp] at hm
  repeat' ((conv=>whnf);first|with_reducible (first|refine Lm ?_|refine Wm (by omega) ?_|refine dT (by omega) (fun hq => ?_)|refine Bf.D (fun hq => ?_) (fun hq => ?_)|refine Bf.NB (fun hq => ?_) (fun hq => ?_)|refine Bn ?_|refine Fm rfl ?_)|refine Bt ?_|refine Bu ?_|refine Cl.mk hm ?_|refine Ml.mk (mlook_seen (p : Nat) S2) ?_|refine Cl.mk hr ?_|refine Bf.P (fun hq => ?_) (fun hq => ?_))
  all_goals first
   |exact hno (pages0_4 (allN_no lp (by unfold pgAt tbl; have := hS2 (p : Nat); grind)))
   | ((conv=>whnf);refine Nx.mk (p + 1) ⟨by omega, allN_yes ap (by unfold pgAt tbl; have := hS2 (p : Nat); grind)⟩ (by omega) ?_; (repeat' (first|exact trivial|rfl|refine And.intro ?_ ?_|(exact wkI (by first|omega|(simp only; omega)|(simp; omega))))))
 obtain rfl : p = pgN h := by omega
 repeat' ((conv=>whnf);first|with_reducible (first|refine Lm ?_|refine Wm (by omega) ?_|refine dF (by omega) (fun hq => ?_)|refine Bn ?_|refine Fm rfl ?_)|refine Bt ?_|refine Bu ?_)
 have hpn : pgN h = h.Kernel.Machine.Table.Entries.length := rfl
 (conv=>whnf)
 refine Lp.mk (ι := Option Int × List Int) (fun t => [(1, .hold .box (DHeap.enc .imm h)), (122, .hold .one [.it t.1 t.2])]) (fun t => (∀ z ∈ S2, z ∈ t.2 ∨ z < pgN h) ∧ ∀ z ∈ t.2, z ∈ S2) (fun t => t.2.length) ((none, (seenM S2).map (·.1))) ?_ (⟨fun z hz => .inl (by rw [seenM_keys]; exact hz), fun z hz => by rw [seenM_keys] at hz; exact hz⟩) fun t ht => ?_
 ·repeat' (first|exact trivial|rfl|refine And.intro ?_ ?_|(exact wkI (by first|omega|(simp only; omega)|(simp; omega))))
 obtain ⟨cur, left⟩ := t
 obtain ⟨ht1, ht2⟩ := ht
 simp only at ht1 ht2 ⊢
 repeat' ((conv=>whnf);first|with_reducible (first|refine Lm ?_|refine Wm (by omega) ?_|refine Bf.D (fun hq => ?_) (fun hq => ?_)|refine Bn ?_|refine Fm rfl ?_)|refine Bt ?_|refine Bu ?_|refine Nt.mk (fun hq => ?_) (fun l1 k l2 hq => ?_))
 rotate_left
 ·exact hno (pages0_3 (p := k) ((hS2 k).1 (ht2 k (by subst left; simp))) (by omega))
 ·((conv=>whnf);refine Nx.mk (some k, l1 ++ l2) ⟨fun z hz => by have h1 := ht1 z hz; subst left; simp only [List.mem_append, List.mem_cons] at h1 ⊢; rcases h1 with (h1|h1|h1)|h1; exact .inl (.inl h1); (subst h1; exact .inr (by omega)); exact .inl (.inr h1); exact .inr h1, fun z hz => ht2 z (by subst left; simp only [List.mem_append, List.mem_cons] at hz ⊢; grind)⟩ (by subst left; simp) ?_; (repeat' (first|exact trivial|rfl|refine And.intro ?_ ?_|(exact wkI (by first|omega|(simp only; omega)|(simp; omega))))))
 have hall : ∀ p ∈ pgs h.Spans h.Larges, p < pgN h := fun p hp => by
  have h1 := ht1 p ((hS2 p).2 hp)
  subst left
  simpa using h1
 have h0 : pages0 h = true := pages0_end ai ak hall ap
 rw [h0, Bool.true_and]
 (conv=>whnf)
 refine Lp.mk (ι := Nat) (fun i => [(1, .hold .box (DHeap.enc .imm h)), (136, .hold .one (rDSpanS .imm h.Spans)), (137, .hold .one [I (h.Spans.length)]), (138, .hold .one [I ((i : Nat) : Int)])]) (fun i => i ≤ h.Spans.length ∧ allN i (fun i => allN i (pairAt h i)) = true) (fun i => h.Spans.length - i) 0 ?_ ⟨Nat.zero_le _, rfl⟩ fun i hi => ?_
 ·repeat' (first|exact trivial|rfl|refine And.intro ?_ ?_|(exact wkI (by first|omega|(simp only; omega)|(simp; omega))))
 obtain ⟨hi, ai⟩ := hi
 by_cases li : i < h.Spans.length
 ·have hx := get_nth li
  have htl : (h.Spans.take i).length = i := by rw [List.length_take]; omega
  repeat' ((conv=>whnf);first|with_reducible (first|refine Lm ?_|refine Wm (by omega) ?_|refine Ix.nat (get_map hx) ?_|refine dT (by omega) (fun hq => ?_)|refine Bn ?_|refine Fm rfl ?_)|refine Bt ?_|refine Bu ?_|refine Sl.pre i rfl (by simp; omega) (fun r hr => by obtain ⟨z, -, rfl⟩ := List.mem_map.1 hr; rfl) (List.map_take ..) ?_)
  (conv=>whnf)
  refine Lp.mk (ι := Nat) (fun j => [(1, .hold .box (DHeap.enc .imm h)), (14, .hold .box (DSpan.enc .imm (nth h.Spans i))), (136, .hold .one (rDSpanS .imm h.Spans)), (137, .hold .one [I (h.Spans.length)]), (138, .hold .one [I ((i : Nat) : Int)]), (146, .hold .one (rDSpanS .imm (h.Spans.take i))), (147, .hold .one [I ((h.Spans.take i).length)]), (148, .hold .one [I ((j : Nat) : Int)])]) (fun j => j ≤ (h.Spans.take i).length ∧ allN j (pairAt h i) = true) (fun j => (h.Spans.take i).length - j) 0 ?_ ⟨Nat.zero_le _, rfl⟩ fun j hj => ?_
  ·repeat' (first|exact trivial|rfl|refine And.intro ?_ ?_|(exact wkI (by first|omega|(simp only; omega)|(simp; omega))))
  obtain ⟨hj, aj⟩ := hj
  by_cases lj : j < (h.Spans.take i).length
  ·have hy := get_nth lj
   have he : nth (h.Spans.take i) j = nth h.Spans j := nth_of (by rw [List.getElem?_take_of_lt (by omega)]; exact get_nth (by omega))
   rw [he] at hy
   have hm := Meshable_impl (nth h.Spans i) (nth h.Spans j)
   cases em : meshable (nth h.Spans i) (nth h.Spans j) <;> rw [em] at hm
   all_goals
    repeat' ((conv=>whnf);first|with_reducible (first|refine Lm ?_|refine Wm (by omega) ?_|refine Ix.nat (get_map hy) ?_|refine dT (by omega) (fun hq => ?_)|refine Bf.E (fun hq => ?_) (fun hq => ?_)|refine Bn ?_|refine Fm rfl ?_)|refine Bt ?_|refine Bu ?_|refine Cl.mk (PageEntry_impl (tbl h) _ hst) ?_|refine Cl.mk hm ?_)
    all_goals first
     | exact congrArg (fun z => [B z]) ((by symm; exact allN_no li (allN_no (i := j) (by omega) (by unfold pairAt; rw [em]; grind))))
     | ((conv=>whnf);refine Nx.mk (j + 1) ⟨by omega, allN_yes aj (by unfold pairAt; rw [em]; grind)⟩ (by omega) ?_; (repeat' (first|exact trivial|rfl|refine And.intro ?_ ?_|(exact wkI (by first|omega|(simp only; omega)|(simp; omega))))))
  ·obtain rfl : j = (h.Spans.take i).length := by omega
   rw [htl] at aj
   repeat' ((conv=>whnf);first|with_reducible (first|refine Lm ?_|refine Wm (by omega) ?_|refine dF (by omega) (fun hq => ?_)|refine Bn ?_|refine Fm rfl ?_)|refine Bt ?_|refine Bu ?_)
   ((conv=>whnf);refine Nx.mk (i + 1) ⟨by omega, allN_yes ai aj⟩ (by omega) ?_; (repeat' (first|exact trivial|rfl|refine And.intro ?_ ?_|(exact wkI (by first|omega|(simp only; omega)|(simp; omega))))))
 obtain rfl : i = h.Spans.length := by omega
 repeat' ((conv=>whnf);first|with_reducible (first|refine Lm ?_|refine Wm (by omega) ?_|refine dF (by omega) (fun hq => ?_)|refine Bn ?_|refine Fm rfl ?_)|refine Bt ?_|refine Bu ?_)
 exact congrArg (fun z => [B z]) ((by unfold meshI; rw [ai]))
end Go.Proofs.YtogajjgmcnjkbaaGreat.Ab
/- Spans on one frame, objects, slots that are held: the contracts of l27Meshed, l27Job, l27Slot, l27Objs (the reference's) and objsOk (the program's). No condition. -/
namespace Go.Proofs.YtogajjgmcnjkbaaGreat.Ab
open Go.RowKit
set_option maxRecDepth 20000
set_option maxHeartbeats 8000000
theorem fstIx_cases {α : Type} [Inhabited α] (pr : α → Bool) (xs : List α) : fstIx pr xs = -1 ∨ ∃ n, n < xs.length ∧ fstIx pr xs = (n : Nat) ∧ pr (nth xs n) = true := by
 unfold fstIx
 cases h : xs.findIdx? pr with
 | none => exact .inl rfl
 | some i =>
  obtain ⟨hi, hp, -⟩ := List.findIdx?_eq_some_iff_getElem.1 h
  exact .inr ⟨i, hi, rfl, by rw [nth_of (List.getElem?_eq_getElem hi)]; exact hp⟩
theorem meshS_no {h : DHeap} {i k : Nat} (hi : i < h.Spans.length) (hk : k < (framePages h (nth h.Spans i).Page).length) (hm : meshAt h i (nth (framePages h (nth h.Spans i).Page) k) = false) : meshS h = false := by
 unfold meshS; exact allN_no hi (all_no (get_nth hk) hm)
theorem l27Meshed_ok (h : DHeap) (hs1 : smlDSpanS h.Spans) (hst : smlT h) : CallsA Tryz.prog 93 false [.val (some 24) (DHeap.enc .imm h)] .one [B (meshS h)] := by
 have hl1 := hs1.1
 have hl3 : pgN h ≤ 1048576 := hst.1
 refine fO (n := 55) [(4,8,[14,15,16,17,18,19,20,21]),(8,6,[28,29,30,31,32,33]),(9,21,[34,35,36,37,38,39,40,41,42,43,44,45,46,47,48,49,50,51,52,53,54])] Tryz.func93 (by kernel_rfl) rfl (by kernel_rfl) (by rfl) (.inr ⟨trivial, trivial⟩) ?_
 repeat' ((conv=>whnf);first|with_reducible (first|refine Lm ?_|refine Wm (by omega) ?_|refine Bn ?_|refine Fm rfl ?_)|refine Bt ?_|refine Bu ?_)
 (conv=>whnf)
 refine Lp.mk (ι := Nat) (fun i => [(1, .hold .box (DHeap.enc .imm h)), (3, .hold .one [I ((i : Nat) : Int)])]) (fun i => i ≤ h.Spans.length ∧ allN i (fun i => (framePages h (nth h.Spans i).Page).all (meshAt h i)) = true) (fun i => h.Spans.length - i) 0 ?_ ⟨Nat.zero_le _, rfl⟩ fun i hi => ?_
 ·repeat' (first|exact trivial|rfl|refine And.intro ?_ ?_|(exact wkI (by first|omega|(simp only; omega)|(simp; omega))))
 obtain ⟨hi, ai⟩ := hi
 by_cases li : i < h.Spans.length
 ·have hx := get_nth li
  have hfl := framePages_le h (nth h.Spans i).Page
  repeat' ((conv=>whnf);first|with_reducible (first|refine Lm ?_|refine Wm (by omega) ?_|refine Ix.nat (get_map hx) ?_|refine dT (by omega) (fun hq => ?_)|refine Bn ?_|refine Fm rfl ?_)|refine Bt ?_|refine Bu ?_|refine Cl.mk (FramePages_spec h _ hst) ?_)
  (conv=>whnf)
  refine Lp.mk (ι := Nat) (fun k => [(1, .hold .box (DHeap.enc .imm h)), (3, .hold .one [I ((i : Nat) : Int)]), (4, .hold .one (rIntS .own (framePages h (nth h.Spans i).Page))), (5, .hold .one [I ((k : Nat) : Int)])]) (fun k => k ≤ (framePages h (nth h.Spans i).Page).length ∧ ((framePages h (nth h.Spans i).Page).take k).all (meshAt h i) = true) (fun k => (framePages h (nth h.Spans i).Page).length - k) (0) ?_ (⟨Nat.zero_le _, rfl⟩) fun k hk => ?_
  ·repeat' (first|exact trivial|rfl|refine And.intro ?_ ?_|(exact wkI (by first|omega|(simp only; omega)|(simp; omega))))
  obtain ⟨hk, ak⟩ := hk
  by_cases lk : k < (framePages h (nth h.Spans i).Page).length
  ·have hy := get_nth lk
   have hso := SpanOn_spec h (nth (framePages h (nth h.Spans i).Page) k) hl1
   rcases fstIx_cases (atPage (nth (framePages h (nth h.Spans i).Page) k)) h.Spans with hc | ⟨n, hn, hc, -⟩
   ·rw [show spanOn h (nth (framePages h (nth h.Spans i).Page) k) = -1 from hc] at hso
    have hmz : meshAt h i (nth (framePages h (nth h.Spans i).Page) k) = false := by
     unfold meshAt; rw [show spanOn h (nth (framePages h (nth h.Spans i).Page) k) = -1 from hc, decide_eq_false (by omega), decide_eq_false (by omega)]; rfl
    repeat' ((conv=>whnf);first|with_reducible (first|refine Lm ?_|refine Wm (by omega) ?_|refine Ix.nat (get_map hx) ?_|refine Ix.nat (get_map hy) ?_|refine dT (by omega) (fun hq => ?_)|refine Bf.D (fun hq => ?_) (fun hq => ?_)|refine Bf.N (fun hq => ?_) (fun hq => ?_)|refine Bn ?_|refine Fm rfl ?_)|refine Bt ?_|refine Bu ?_|refine Rw.one rfl (get_map hy) rfl ?_|refine Cl.mk hso ?_)
    all_goals first
     | exact congrArg (fun z => [B z]) ((meshS_no li lk hmz).symm)
     |(exfalso; omega)
   ·rw [show spanOn h (nth (framePages h (nth h.Spans i).Page) k) = (n : Nat) from hc] at hso
    have hz := get_nth hn
    have hm := Meshable_spec (nth h.Spans i) (nth h.Spans n)
    have hma : meshAt h i (nth (framePages h (nth h.Spans i).Page) k) = (decide ((n : Int) = (i : Nat)) || meshable (nth h.Spans i) (nth h.Spans n)) := by
     unfold meshAt; rw [show spanOn h (nth (framePages h (nth h.Spans i).Page) k) = (n : Nat) from hc, decide_eq_true (p := (0 : Int) ≤ (n : Nat)) (by omega)]; simp
    cases em : meshable (nth h.Spans i) (nth h.Spans n) <;> rw [em] at hm
    all_goals
     repeat' ((conv=>whnf);first|with_reducible (first|refine Lm ?_|refine Wm (by omega) ?_|refine Ix.nat (get_map hx) ?_|refine Ix.nat (get_map hz) ?_|refine Ix.nat (get_map hy) ?_|refine dT (by omega) (fun hq => ?_)|refine Bf.D (fun hq => ?_) (fun hq => ?_)|refine Bf.N (fun hq => ?_) (fun hq => ?_)|refine Bn ?_|refine Fm rfl ?_)|refine Bt ?_|refine Bu ?_|refine Rw.one rfl (get_map hy) rfl ?_|refine Cl.mk hso ?_|refine Cl.mk hm ?_)
     all_goals first
      | exact congrArg (fun z => [B z]) ((meshS_no li lk (by rw [hma, em]; grind)).symm)
      | ((conv=>whnf);refine Nx.mk (k + 1) ⟨by omega, all_yes hy ak (by rw [hma, em]; grind)⟩ (by omega) ?_; (repeat' (first|exact trivial|rfl|refine And.intro ?_ ?_|(exact wkI (by first|omega|(simp only; omega)|(simp; omega))))))
      |(exfalso; omega)
  ·repeat' ((conv=>whnf);first|with_reducible (first|refine Lm ?_|refine Wm (by omega) ?_|refine dF (by omega) (fun hq => ?_)|refine Bn ?_|refine Fm rfl ?_)|refine Bt ?_|refine Bu ?_)
   ((conv=>whnf);refine Nx.mk (i + 1) ⟨by omega, allN_yes ai (all_end (by omega) ak)⟩ (by omega) ?_; (repeat' (first|exact trivial|rfl|refine And.intro ?_ ?_|(exact wkI (by first|omega|(simp only; omega)|(simp; omega))))))
 ·obtain rfl : i = h.Spans.length := by omega
  repeat' ((conv=>whnf);first|with_reducible (first|refine Lm ?_|refine Wm (by omega) ?_|refine dF (by omega) (fun hq => ?_)|refine Bn ?_|refine Fm rfl ?_)|refine Bt ?_|refine Bu ?_)
  exact congrArg (fun z => [B z]) ((by unfold meshS; rw [ai]))
theorem l27Job_ok (j : DJob) (hs : DJob.sml j) : CallsA Tryz.prog 99 false [.val (some 5) (DJob.enc .imm j)] .one [B (noJob j)] := by
 have hl : j.Plan.Cells.length ≤ 1048576 := hs
 refine fO (n := 30) [] Tryz.func99 (by kernel_rfl) rfl (by kernel_rfl) (by rfl) (.inr ⟨trivial, trivial⟩) ?_
 repeat' ((conv=>whnf);first|with_reducible (first|refine Lm ?_|refine Wm (by omega) ?_|refine Bf.E (fun hq => ?_) (fun hq => ?_)|refine Bf.D (fun hq => ?_) (fun hq => ?_)|refine Bn ?_|refine Fm rfl ?_)|refine Bt ?_|refine Bu ?_)
 all_goals exact congrArg (fun z => [B z]) ((by unfold noJob; first | (symm; exact decide_eq_false (by omega)) | (rw [Bool.eq_iff_iff, beq_iff_eq, decide_eq_true_eq]; omega)))
/- whom an address belongs to -/
theorem denotes_ix (sp : List DSpan) (la : List DLarge) (a : Int) : ((denotes sp la a).Kind = 1 → 0 ≤ (denotes sp la a).Index ∧ (denotes sp la a).Index.toNat < sp.length) ∧ ((denotes sp la a).Kind = 3 → 0 ≤ (denotes sp la a).Index ∧ (denotes sp la a).Index.toNat < la.length) := by
 unfold denotes
 cases h1 : sp.findIdx? (slotIn · a) with
 | some i =>
  obtain ⟨hi, -⟩ := List.findIdx?_eq_some_iff_getElem.1 h1
  simp only [ownS]
  refine ⟨fun _ => ⟨by omega, by simpa using hi⟩, fun e => ?_⟩
  split at e <;> cases e
 | none =>
  cases h2 : la.findIdx? (largeHas · a) with
  | some i =>
   obtain ⟨hi, -⟩ := List.findIdx?_eq_some_iff_getElem.1 h2
   exact ⟨fun e => (by cases e), fun _ => ⟨by simp, by simpa using hi⟩⟩
  | none => exact ⟨fun e => (by cases e), fun e => (by cases e)⟩
theorem l27Slot_ok (h : DHeap) (a c : Int) (hs1 : smlDSpanS h.Spans) (hs2 : smlDLargeS h.Larges) (hlay : layoutOk h.Spans h.Larges = true) (hw : wfI a) : CallsA Tryz.prog 213 false [.val (some 24) (DHeap.enc .imm h), .val none [I a], .val none [I c]] .one [B (slotHeld h a c)] := by
 have hd := Denotes_spec h.Spans h.Larges a hs1 hs2 hlay hw
 obtain ⟨i1, -⟩ := denotes_ix h.Spans h.Larges a
 unfold slotHeld
 generalize denotes h.Spans h.Larges a = w at hd i1 ⊢
 refine fO (n := 37) [] Tryz.func213 (by kernel_rfl) rfl (by kernel_rfl) (by rfl) (.inr ⟨trivial, trivial⟩) ?_
 repeat' ((conv=>whnf);first|with_reducible (first|refine Lm ?_|refine Wm (by omega) ?_|refine Bf.D (fun hq => ?_) (fun hq => ?_)|refine Bf.E (fun hq => ?_) (fun hq => ?_)|refine Bn ?_|refine Fm rfl ?_)|refine Bt ?_|refine Bu ?_|refine Cl.mk hd ?_|refine Ix.mk (i1 (by assumption)).1 (get_map (get_nth (i1 (by assumption)).2)) ?_)
 all_goals exact congrArg (fun z => [B z]) ((by grind))
/- objects -/
theorem ownsObj_w (h : DHeap) (o : DObj) (w : DOwner) (hw : denotes h.Spans h.Larges o.Addr = w) : ownsObj h o = (decide (w.Offset = 0) && ((decide (w.Kind = 1) && decide ((nth h.Spans w.Index.toNat).Class = classOf o.Size)) || (decide (w.Kind = 3) && decide ((nth h.Larges w.Index.toNat).Size = o.Size)))) := by
 unfold ownsObj; rw [hw]
theorem objsAll_no {h : DHeap} {i : Nat} (hi : i < h.Objs.length) (ho : objAt (IntKind.i64.wrap (h.Next - 1)) h i = false) : objsAll h = false := allN_no hi ho
theorem objAt_1 {nx : Int} {h : DHeap} {i : Nat} (h1 : objNums nx h i = false) : objAt nx h i = false := by unfold objAt; rw [h1]; rfl
theorem objAt_2 {nx : Int} {h : DHeap} {i : Nat} (h1 : (h.Objs.take i).any (sameId (nth h.Objs i).Id) = true) : objAt nx h i = false := by unfold objAt; rw [h1]; simp
theorem objAt_3 {nx : Int} {h : DHeap} {i : Nat} (h1 : ownsObj h (nth h.Objs i) = false) : objAt nx h i = false := by unfold objAt; rw [h1]; simp
theorem objAt_yes {nx : Int} {h : DHeap} {i : Nat} (h1 : objNums nx h i = true) (h2 : (h.Objs.take i).any (sameId (nth h.Objs i).Id) = false) (h3 : ownsObj h (nth h.Objs i) = true) : objAt nx h i = true := by unfold objAt; rw [h1, h2, h3]; rfl
theorem l27Objs_ok (h : DHeap) (hs1 : smlDSpanS h.Spans) (hs2 : smlDLargeS h.Larges) (hlay : layoutOk h.Spans h.Larges = true) (hl : h.Objs.length ≤ 1048576) (hc : h.Caches.length ≤ 1048576) (hw : ∀ o ∈ h.Objs, wfI o.Addr) : CallsA Tryz.prog 97 false [.val (some 24) (DHeap.enc .imm h)] .one [B (objsAll h)] := by
 refine fO (n := 117) [(5,33,[21,22,23,24,25,26,27,28,29,30,31,32,33,34,35,36,37,38,39,40,41,42,43,44,45,46,47,48,49,50,51,52,53]),(10,9,[59,60,61,62,63,64,65,66,67]),(13,16,[75,76,77,78,79,80,81,82,83,84,85,86,87,88,89,90]),(14,15,[91,92,93,94,95,96,97,98,99,100,101,102,103,104,105])] Tryz.func97 (by kernel_rfl) rfl (by kernel_rfl) (by rfl) (.inr ⟨trivial, trivial⟩) ?_
 repeat' ((conv=>whnf);first|with_reducible (first|refine Lm ?_|refine Wm (by omega) ?_|refine Bn ?_|refine Fm rfl ?_)|refine Bt ?_|refine Bu ?_)
 (conv=>whnf)
 refine Lp.mk (ι := Nat) (fun i => [(1, .hold .box (DHeap.enc .imm h)), (3, .hold .one [I ((i : Nat) : Int)])]) (fun i => i ≤ h.Objs.length ∧ allN i (objAt (IntKind.i64.wrap (h.Next - 1)) h) = true) (fun i => h.Objs.length - i) 0 ?_ ⟨Nat.zero_le _, rfl⟩ fun i hi => ?_
 ·repeat' (first|exact trivial|rfl|refine And.intro ?_ ?_|(exact wkI (by first|omega|(simp only; omega)|(simp; omega))))
 obtain ⟨hi, ai⟩ := hi
 by_cases li : i < h.Objs.length
 ·have hx := get_nth li
  have hd := Denotes_spec h.Spans h.Larges (nth h.Objs i).Addr hs1 hs2 hlay (hw _ (nth_mem li))
  obtain ⟨i1, i3⟩ := denotes_ix h.Spans h.Larges (nth h.Objs i).Addr
  have hown := ownsObj_w h (nth h.Objs i) _ rfl
  generalize denotes h.Spans h.Larges (nth h.Objs i).Addr = w at hd i1 i3 hown
  by_cases hnum : objNums (IntKind.i64.wrap (h.Next - 1)) h i = true
  ·have hnum' := hnum
   unfold objNums at hnum'
   rw [decide_eq_true_eq] at hnum'
   repeat' ((conv=>whnf);first|with_reducible (first|refine Lm ?_|refine Wm (by omega) ?_|refine Ix.nat (get_map hx) ?_|refine dT (by omega) (fun hq => ?_)|refine dF (by omega) (fun hq => ?_)|refine Bf.D (fun hq => ?_) (fun hq => ?_)|refine Bn ?_|refine Fm rfl ?_)|refine Bt ?_|refine Bu ?_|refine Ix.mk (by omega) (get_map (get_pre (by omega) li)) ?_|refine Cl.mk (l01In_ok _ _ _) ?_|refine Wr.mk rfl ?_)
   all_goals
    (conv=>whnf)
    refine Lp.mk (ι := Nat) (fun k => [(1, .hold .box (DHeap.enc .imm h)), (3, .hold .one [I ((i : Nat) : Int)]), (4, .hold .box (DObj.enc .imm (nth h.Objs i))), (5, .hold .one [I ((k : Nat) : Int)])]) (fun k => k ≤ i ∧ (h.Objs.take k).any (sameId (nth h.Objs i).Id) = false) (fun k => i - k) (0) ?_ (⟨Nat.zero_le _, rfl⟩) fun k hk => ?_
    ·repeat' (first|exact trivial|rfl|refine And.intro ?_ ?_|(exact wkI (by first|omega|(simp only; omega)|(simp; omega))))
    obtain ⟨hk, ak⟩ := hk
    by_cases lk : k < i
    ·have hy := get_nth (xs := h.Objs) (i := k) (by omega)
     repeat' ((conv=>whnf);first|with_reducible (first|refine Lm ?_|refine Wm (by omega) ?_|refine Ix.nat (get_map hy) ?_|refine dT (by omega) (fun hq => ?_)|refine Bf.E (fun hq => ?_) (fun hq => ?_)|refine Bn ?_|refine Fm rfl ?_)|refine Bt ?_|refine Bu ?_)
     all_goals first
      | exact congrArg (fun z => [B z]) ((objsAll_no li (objAt_2 (any_yes (i := k) (by rw [List.getElem?_take_of_lt lk]; exact hy) (decide_eq_true (by assumption))))).symm)
      | ((conv=>whnf);refine Nx.mk (k + 1) ⟨by omega, any_next hy ak (decide_eq_false (by assumption))⟩ (by omega) ?_; (repeat' (first|exact trivial|rfl|refine And.intro ?_ ?_|(exact wkI (by first|omega|(simp only; omega)|(simp; omega))))))
    ·obtain rfl : k = i := by omega
     repeat' ((conv=>whnf);first|with_reducible (first|refine Lm ?_|refine Wm (by omega) ?_|refine dF (by omega) (fun hq => ?_)|refine Bf.D (fun hq => ?_) (fun hq => ?_)|refine Bf.E (fun hq => ?_) (fun hq => ?_)|refine Bf.N (fun hq => ?_) (fun hq => ?_)|refine Bn ?_|refine Fm rfl ?_)|refine Bt ?_|refine Bu ?_|refine Cl.mk hd ?_|refine Ix.mk (i1 (by assumption)).1 (get_map (get_nth (i1 (by assumption)).2)) ?_|refine Ix.mk (i3 (by assumption)).1 (get_map (get_nth (i3 (by assumption)).2)) ?_|refine Cl.mk (ClassOf_spec _) ?_)
     all_goals first
      | exact congrArg (fun z => [B z]) ((objsAll_no li (objAt_3 (by rw [hown]; grind))).symm)
      | ((conv=>whnf);refine Nx.mk (k + 1) ⟨by omega, allN_yes ai (objAt_yes hnum ak (by rw [hown]; grind))⟩ (by omega) ?_; (repeat' (first|exact trivial|rfl|refine And.intro ?_ ?_|(exact wkI (by first|omega|(simp only; omega)|(simp; omega))))))
      |(exfalso; omega)
  ·have hn2 : objNums (IntKind.i64.wrap (h.Next - 1)) h i = false := by simpa using hnum
   have hnum' := hn2
   unfold objNums at hnum'
   rw [decide_eq_false_iff_not] at hnum'
   repeat' ((conv=>whnf);first|with_reducible (first|refine Lm ?_|refine Wm (by omega) ?_|refine Ix.nat (get_map hx) ?_|refine dT (by omega) (fun hq => ?_)|refine Bf.D (fun hq => ?_) (fun hq => ?_)|refine Bn ?_|refine Fm rfl ?_)|refine Bt ?_|refine Bu ?_|refine Ix.mk (by omega) (get_map (get_pre (by omega) li)) ?_|refine Cl.mk (l01In_ok _ _ _) ?_|refine Wr.mk rfl ?_)
   all_goals first
    | exact congrArg (fun z => [B z]) ((objsAll_no li (objAt_1 hn2)).symm)
    |(exfalso; omega)
 ·obtain rfl : i = h.Objs.length := by omega
  repeat' ((conv=>whnf);first|with_reducible (first|refine Lm ?_|refine Wm (by omega) ?_|refine dF (by omega) (fun hq => ?_)|refine Bn ?_|refine Fm rfl ?_)|refine Bt ?_|refine Bu ?_)
  exact congrArg (fun z => [B z]) ((show true = objsAll h from ai.symm))
theorem sameId_fn (o o0 : DObj) : CallsA Tryz.prog 237 false [.val (some 4) (DObj.enc .imm o), .ptr (DObj.enc .imm o0)] .one [B (sameId o0.Id o)] := by
 refine fO (n := 9) [] Tryz.func237 (by kernel_rfl) rfl (by kernel_rfl) (by rfl) (.inr ⟨trivial, trivial⟩) ?_
 repeat' ((conv=>whnf);first|with_reducible (first|refine Lm ?_|refine Wm (by omega) ?_|refine Bn ?_|refine Fm rfl ?_)|refine Bt ?_|refine Bu ?_)
 exact congrArg (fun z => [B z]) ((by unfold sameId; rw [Bool.eq_iff_iff]; simp))
theorem objsOk_impl (h : DHeap) (hs1 : smlDSpanS h.Spans) (hs2 : smlDLargeS h.Larges) (hl : h.Objs.length ≤ 1048576) (hc : h.Caches.length ≤ 1048576) : CallsA Tryz.prog 126 false [.val (some 24) (DHeap.enc .imm h)] .one [B (objsAll h)] := by
 refine fO (n := 105) [(4,33,[16,17,18,19,20,21,22,23,24,25,26,27,28,29,30,31,32,33,34,35,36,37,38,39,40,41,42,43,44,45,46,47,48]),(9,16,[62,63,64,65,66,67,68,69,70,71,72,73,74,75,76,77]),(10,15,[78,79,80,81,82,83,84,85,86,87,88,89,90,91,92])] Tryz.func126 (by kernel_rfl) rfl (by kernel_rfl) (by rfl) (.inr ⟨trivial, trivial⟩) ?_
 repeat' ((conv=>whnf);first|with_reducible (first|refine Lm ?_|refine Wm (by omega) ?_|refine Bn ?_|refine Fm rfl ?_)|refine Bt ?_|refine Bu ?_)
 (conv=>whnf)
 refine Lp.mk (ι := Nat) (fun i => [(1, .hold .box (DHeap.enc .imm h)), (9, .hold .one (rDObjS .imm h.Objs)), (10, .hold .one [I (h.Objs.length)]), (11, .hold .one [I ((i : Nat) : Int)])]) (fun i => i ≤ h.Objs.length ∧ allN i (objAt (IntKind.i64.wrap (h.Next - 1)) h) = true) (fun i => h.Objs.length - i) 0 ?_ ⟨Nat.zero_le _, rfl⟩ fun i hi => ?_
 ·repeat' (first|exact trivial|rfl|refine And.intro ?_ ?_|(exact wkI (by first|omega|(simp only; omega)|(simp; omega))))
 obtain ⟨hi, ai⟩ := hi
 by_cases li : i < h.Objs.length
 ·have hx := get_nth li
  have hd := denotes_impl h.Spans h.Larges (nth h.Objs i).Addr hs1 hs2
  obtain ⟨i1, i3⟩ := denotes_ix h.Spans h.Larges (nth h.Objs i).Addr
  have hown := ownsObj_w h (nth h.Objs i) _ rfl
  generalize denotes h.Spans h.Larges (nth h.Objs i).Addr = w at hd i1 i3 hown
  have hcf := ContainsFunc_Obj (h.Objs.take i) (sameId (nth h.Objs i).Id) (by rw [List.length_take]; omega)
  by_cases hnum : objNums (IntKind.i64.wrap (h.Next - 1)) h i = true
  ·have hnum' := hnum
   unfold objNums at hnum'
   rw [decide_eq_true_eq] at hnum'
   cases hany : (h.Objs.take i).any (sameId (nth h.Objs i).Id) <;> rw [hany] at hcf
   ·repeat' ((conv=>whnf);first|with_reducible (first|refine Lm ?_|refine Wm (by omega) ?_|refine Ix.nat (get_map hx) ?_|refine dT (by omega) (fun hq => ?_)|refine dF (by omega) (fun hq => ?_)|refine Bf.D (fun hq => ?_) (fun hq => ?_)|refine Bf.E (fun hq => ?_) (fun hq => ?_)|refine Bf.N (fun hq => ?_) (fun hq => ?_)|refine Bn ?_|refine Fm rfl ?_)|refine Bt ?_|refine Bu ?_|refine Ix.mk (by omega) (get_map (get_pre (by omega) li)) ?_|refine Cl.mk (between_ok _ _ _) ?_|refine Sl.pre i rfl (by simp; omega) (fun r hr => by obtain ⟨z, -, rfl⟩ := List.mem_map.1 hr; rfl) (List.map_take ..) ?_|refine Cq.mk (prQ (some 4) (DObj.enc .imm) (sameId (nth h.Objs i).Id) (h.Objs.take i)) (sameId_fn default (nth h.Objs i)).has (fun L k rcs hQ => by obtain ⟨y, -, rfl, rfl, rfl⟩ := hQ; exact sameId_fn y (nth h.Objs i)) ?_|refine Cl.mk hcf ?_|refine Cl.mk hd ?_|refine Ix.mk (i1 (by assumption)).1 (get_map (get_nth (i1 (by assumption)).2)) ?_|refine Ix.mk (i3 (by assumption)).1 (get_map (get_nth (i3 (by assumption)).2)) ?_|refine Cl.mk (ClassOf_impl _) ?_|refine Wr.mk rfl ?_)
    all_goals first
     | exact congrArg (fun z => [B z]) ((objsAll_no li (objAt_3 (by rw [hown]; grind))).symm)
     | ((conv=>whnf);refine Nx.mk (i + 1) ⟨by omega, allN_yes ai (objAt_yes hnum hany (by rw [hown]; grind))⟩ (by omega) ?_; (repeat' (first|exact trivial|rfl|refine And.intro ?_ ?_|(exact wkI (by first|omega|(simp only; omega)|(simp; omega))))))
     |(exfalso; omega)
   ·repeat' ((conv=>whnf);first|with_reducible (first|refine Lm ?_|refine Wm (by omega) ?_|refine Ix.nat (get_map hx) ?_|refine dT (by omega) (fun hq => ?_)|refine dF (by omega) (fun hq => ?_)|refine Bf.D (fun hq => ?_) (fun hq => ?_)|refine Bn ?_|refine Fm rfl ?_)|refine Bt ?_|refine Bu ?_|refine Ix.mk (by omega) (get_map (get_pre (by omega) li)) ?_|refine Cl.mk (between_ok _ _ _) ?_|refine Sl.pre i rfl (by simp; omega) (fun r hr => by obtain ⟨z, -, rfl⟩ := List.mem_map.1 hr; rfl) (List.map_take ..) ?_|refine Cq.mk (prQ (some 4) (DObj.enc .imm) (sameId (nth h.Objs i).Id) (h.Objs.take i)) (sameId_fn default (nth h.Objs i)).has (fun L k rcs hQ => by obtain ⟨y, -, rfl, rfl, rfl⟩ := hQ; exact sameId_fn y (nth h.Objs i)) ?_|refine Cl.mk hcf ?_|refine Wr.mk rfl ?_)
    all_goals first
     | exact congrArg (fun z => [B z]) ((objsAll_no li (objAt_2 hany)).symm)
     |(exfalso; omega)
  ·have hn2 : objNums (IntKind.i64.wrap (h.Next - 1)) h i = false := by simpa using hnum
   have hnum' := hn2
   unfold objNums at hnum'
   rw [decide_eq_false_iff_not] at hnum'
   repeat' ((conv=>whnf);first|with_reducible (first|refine Lm ?_|refine Wm (by omega) ?_|refine Ix.nat (get_map hx) ?_|refine dT (by omega) (fun hq => ?_)|refine Bf.D (fun hq => ?_) (fun hq => ?_)|refine Bn ?_|refine Fm rfl ?_)|refine Bt ?_|refine Bu ?_|refine Ix.mk (by omega) (get_map (get_pre (by omega) li)) ?_|refine Cl.mk (between_ok _ _ _) ?_|refine Wr.mk rfl ?_)
   all_goals first
    | exact congrArg (fun z => [B z]) ((objsAll_no li (objAt_1 hn2)).symm)
    |(exfalso; omega)
 ·obtain rfl : i = h.Objs.length := by omega
  repeat' ((conv=>whnf);first|with_reducible (first|refine Lm ?_|refine Wm (by omega) ?_|refine dF (by omega) (fun hq => ?_)|refine Bn ?_|refine Fm rfl ?_)|refine Bt ?_|refine Bu ?_)
  exact congrArg (fun z => [B z]) ((show true = objsAll h from ai.symm))
end Go.Proofs.YtogajjgmcnjkbaaGreat.Ab
