/- Addresses that are held and slots in use that nobody holds: contracts, the reference's and the program's. No condition. -/
import Derived.Test.YtjgjnlppphejpaaGreatMk

namespace Go.Proofs.YtjgjnlppphejpaaGreat.Ab
open Go.RowKit
set_option maxRecDepth 20000
set_option maxHeartbeats 4000000
theorem l32Held_spec (h : DHeap) (hs : DHeap.sml h) (hh : heapS h = true) : CallsA Tryz.prog 172 false [.val (some 24) (DHeap.enc .imm h)] .one (rIntS .own (holders h)) := by
 obtain ⟨-, k2, -, -, k5, ⟨k6, k6b⟩, -⟩ := heapS_all hh
 have hfl := inFlight_len k5
 have hml := mailOk_facts k5
 obtain ⟨-, -, -, -, ⟨hlo, -⟩, ⟨hlc, hlc2⟩, hsm, hsq, -⟩ := hs
 have hlq : h.Quar.Lst.length ≤ 1048576 := hsq.1
 refine fO (n := 77) [] Tryz.func172 (by kernel_rfl) rfl (by kernel_rfl) (by rfl) (.inr (rIntS_fr _)) ?_
 repeat' ((conv=>whnf);first|with_reducible (first|refine Lm ?_|refine Wm (by omega) ?_|refine Bn ?_|refine Fm rfl ?_)|refine Bt ?_|refine Bu ?_)
 (conv=>whnf)
 refine Lp.mk (ι := Nat × List Int) (fun i => [(1, .hold .box (DHeap.enc .imm h)), (3, .hold .one (rIntS .own i.2)), (4, .hold .one [I ((i.1 : Nat) : Int)])]) (fun i => i.1 ≤ h.Objs.length ∧ i.2 = (h.Objs.take i.1).map (·.Addr)) (fun i => h.Objs.length - i.1) ((0, [])) ?_ (⟨Nat.zero_le _, rfl⟩) fun i hi => ?_
 ·repeat' (first|exact trivial|rfl |refine And.intro ?_ ?_|(exact wkI (by first|omega|(simp only; omega)|(simp; omega))))
 obtain ⟨i, S⟩ := i
 obtain ⟨hi, hS⟩ := hi
 simp only at hi hS ⊢
 have hSl : S.length = i := by rw [hS, List.length_map, List.length_take]; omega
 by_cases li : i < h.Objs.length
 ·have hx := get_nth li
  repeat' ((conv=>whnf);first|with_reducible (first|refine Lm ?_|refine Wm (by omega) ?_|refine Ix.nat (get_map hx) ?_|refine dT (by omega) (fun hq => ?_)|refine Bn ?_|refine Fm rfl ?_)|refine Bt ?_|refine Bu ?_|refine Ap.mk rowI_one (fun r hr => by rw [List.mem_singleton.1 hr]; rfl) (by simp [noOwn, isOwn]) (by simp; omega) (by simp only [List.length_map]; exact mkB (by simp; omega) (by decide)) rfl ?_)
  ((conv=>whnf)
   refine Nx.mk (i + 1, S ++ [(nth h.Objs i).Addr]) ⟨(by simp only; omega), (by simp only; rw [hS, List.take_add_one, hx]; simp)⟩ (by simp only; omega) ?_
   (repeat' (first|exact trivial|rfl|exact And.intro rfl (And.intro (congrArg (C.s Own.own) (by simp [rI])) trivial)|refine And.intro ?_ ?_)))
 obtain rfl : i = h.Objs.length := by omega
 rw [List.take_length] at hS
 repeat' ((conv=>whnf);first|with_reducible (first|refine Lm ?_|refine Wm (by omega) ?_|refine dF (by omega) (fun hq => ?_)|refine Bn ?_|refine Fm rfl ?_)|refine Bt ?_|refine Bu ?_)
 (conv=>whnf)
 refine Lp.mk (ι := Nat × List Int) (fun i => [(1, .hold .box (DHeap.enc .imm h)), (3, .hold .one (rIntS .own i.2)), (5, .hold .one [I ((i.1 : Nat) : Int)])]) (fun i => i.1 ≤ h.Caches.length ∧ i.2 = S ++ ((h.Caches.take i.1).flatMap fun c => c.Lists.flatten) ∧ i.2.length ≤ 1048576 + 32 * i.1) (fun i => h.Caches.length - i.1) ((0, S)) ?_ (⟨Nat.zero_le _, by simp, by simp only; omega⟩) fun i hi => ?_
 ·repeat' (first|exact trivial|rfl |refine And.intro ?_ ?_|(exact wkI (by first|omega|(simp only; omega)|(simp; omega))))
 obtain ⟨i, S2⟩ := i
 obtain ⟨hi2, hS2, hb2⟩ := hi
 simp only at hi2 hS2 hb2 ⊢
 by_cases li2 : i < h.Caches.length
 ·have hx := get_nth li2
  obtain ⟨h4, h8⟩ := cacheOk_yes (List.all_eq_true.1 k6 _ (nth_mem li2))
  repeat' ((conv=>whnf);first|with_reducible (first|refine Lm ?_|refine Wm (by omega) ?_|refine Ix.nat (get_map hx) ?_|refine dT (by omega) (fun hq => ?_)|refine Bn ?_|refine Fm rfl ?_)|refine Bt ?_|refine Bu ?_)
  (conv=>whnf)
  refine Lp.mk (ι := Nat × List Int) (fun k => [(1, .hold .box (DHeap.enc .imm h)), (3, .hold .one (rIntS .own k.2)), (5, .hold .one [I ((i : Nat) : Int)]), (6, .hold .one [I ((k.1 : Nat) : Int)])]) (fun k => k.1 ≤ (nth h.Caches i).Lists.length ∧ k.2 = S2 ++ ((nth h.Caches i).Lists.take k.1).flatten ∧ k.2.length ≤ S2.length + 8 * k.1) (fun k => (nth h.Caches i).Lists.length - k.1) ((0, S2)) ?_ (⟨Nat.zero_le _, by simp, by simp only; omega⟩) fun k hk => ?_
  ·repeat' (first|exact trivial|rfl |refine And.intro ?_ ?_|(exact wkI (by first|omega|(simp only; omega)|(simp; omega))))
  obtain ⟨k, S3⟩ := k
  obtain ⟨hk, hS3, hb3⟩ := hk
  simp only at hk hS3 hb3 ⊢
  by_cases lk : k < (nth h.Caches i).Lists.length
  ·have hy := get_nth lk
   have hl8 := h8 _ (nth_mem lk)
   repeat' ((conv=>whnf);first|with_reducible (first|refine Lm ?_|refine Wm (by omega) ?_|refine Ix.nat (get_map hx) ?_|refine Ix.nat (get_map hy) ?_|refine dT (by omega) (fun hq => ?_)|refine Bn ?_|refine Fm rfl ?_)|refine Bt ?_|refine Bu ?_|refine Ap.mk rowI_one rowI_imm (fun _ => rowI_no) (by simp; omega) (by show _ * 8 ≤ _; simp; omega) rfl ?_)
   ((conv=>whnf)
    refine Nx.mk (k + 1, S3 ++ nth (nth h.Caches i).Lists k) ⟨(by simp only; omega), (by simp only; rw [lists_take hy, hS3, List.append_assoc]), (by simp only; rw [List.length_append]; omega)⟩ (by simp only; omega) ?_
    (repeat' (first|exact trivial|rfl|exact And.intro rfl (And.intro (congrArg (C.s Own.own) (by simp [rI])) trivial)|refine And.intro ?_ ?_)))
  ·obtain rfl : k = (nth h.Caches i).Lists.length := by omega
   rw [List.take_length] at hS3
   repeat' ((conv=>whnf);first|with_reducible (first|refine Lm ?_|refine Wm (by omega) ?_|refine Ix.nat (get_map hx) ?_|refine dF (by omega) (fun hq => ?_)|refine Bn ?_|refine Fm rfl ?_)|refine Bt ?_|refine Bu ?_)
   ((conv=>whnf);refine Nx.mk (i + 1, S3) ⟨(by simp only; omega), (by simp only; rw [hS3, hS2, caches_take hx, List.append_assoc]), (by simp only; omega)⟩ (by simp only; omega) ?_; (repeat' (first|exact trivial|rfl|refine And.intro ?_ ?_|(exact wkI (by first|omega|(simp only; omega)|(simp; omega))))))
 obtain rfl : i = h.Caches.length := by omega
 rw [List.take_length] at hS2
 repeat' ((conv=>whnf);first|with_reducible (first|refine Lm ?_|refine Wm (by omega) ?_|refine dF (by omega) (fun hq => ?_)|refine Bn ?_|refine Fm rfl ?_)|refine Bt ?_|refine Bu ?_)
 (conv=>whnf)
 refine Lp.mk (ι := Nat × List Int) (fun q => [(1, .hold .box (DHeap.enc .imm h)), (3, .hold .one (rIntS .own q.2)), (7, .hold .one [I ((q.1 : Nat) : Int)])]) (fun q => q.1 ≤ h.Quar.Lst.length ∧ q.2 = S2 ++ (h.Quar.Lst.take q.1).map (·.Addr)) (fun q => h.Quar.Lst.length - q.1) ((0, S2)) ?_ (⟨Nat.zero_le _, by simp⟩) fun q hq => ?_
 ·repeat' (first|exact trivial|rfl |refine And.intro ?_ ?_|(exact wkI (by first|omega|(simp only; omega)|(simp; omega))))
 obtain ⟨q, S5⟩ := q
 obtain ⟨hq1, hS5⟩ := hq
 simp only at hq1 hS5 ⊢
 have hl5 : S5.length = S2.length + q := by rw [hS5, List.length_append, List.length_map, List.length_take]; omega
 by_cases lq : q < h.Quar.Lst.length
 ·have hz := get_nth lq
  repeat' ((conv=>whnf);first|with_reducible (first|refine Lm ?_|refine Wm (by omega) ?_|refine Ix.nat (get_map hz) ?_|refine dT (by omega) (fun hq => ?_)|refine Bn ?_|refine Fm rfl ?_)|refine Bt ?_|refine Bu ?_|refine Ap.mk rowI_one (fun r hr => by rw [List.mem_singleton.1 hr]; rfl) (by simp [noOwn, isOwn]) (by simp; omega) (by show _ * 8 ≤ _; simp; omega) rfl ?_)
  ((conv=>whnf)
   refine Nx.mk (q + 1, S5 ++ [(nth h.Quar.Lst q).Addr]) ⟨(by simp only; omega), (by simp only; rw [hS5, List.take_add_one, hz, List.map_append, List.append_assoc]; rfl)⟩ (by simp only; omega) ?_
   (repeat' (first|exact trivial|rfl|exact And.intro rfl (And.intro (congrArg (C.s Own.own) (by simp [rI])) trivial)|refine And.intro ?_ ?_)))
 obtain rfl : q = h.Quar.Lst.length := by omega
 rw [List.take_length] at hS5
 repeat' ((conv=>whnf);first|with_reducible (first|refine Lm ?_|refine Wm (by omega) ?_|refine dF (by omega) (fun hq => ?_)|refine Bn ?_|refine Fm rfl ?_)|refine Bt ?_|refine Bu ?_|refine Cl.mk (InFlight_spec h.Mail hsm) ?_|refine Ap.mk rowI_one rowI_one (fun _ => rowI_no) (by simp; omega) (by show _ * 8 ≤ _; simp; omega) rfl ?_)
 have hall : S5 ++ inFlight h.Mail = holders h := by rw [hS5, hS2, hS]; rfl
 rw [← hall]
 show [C.s Own.own _] = [C.s Own.own _]
 rw [List.map_append]
theorem holders_len {h : DHeap} (hh : heapS h = true) : (holders h).length ≤ 512 := by
 obtain ⟨-, -, -, -, -, -, -, -, -, -, k11⟩ := heapS_all hh
 have := liveN_len h.Spans h.Larges 512
 unfold liveS at k11
 omega
theorem Leaks_spec (h : DHeap) (hs : DHeap.sml h) (hh : heapS h = true) : CallsA Tryz.prog 79 false [.val (some 24) (DHeap.enc .imm h)] .one (rIntS .own []) := by
 obtain ⟨-, k2, -⟩ := heapS_all hh
 have hlen := holders_len hh
 have c1 := LiveAddrs_spec h.Spans h.Larges hs.2.2.1 hs.2.2.2.1 k2
 have hll := liveN_len h.Spans h.Larges 512
 rw [show liveN h.Spans h.Larges 512 = liveS h.Spans h.Larges from rfl] at hll
 refine fO (n := 36) [] Tryz.func79 (by kernel_rfl) rfl (by kernel_rfl) (by rfl) (.inr (rIntS_fr _)) ?_
 repeat' ((conv=>whnf);first|with_reducible (first|refine Lm ?_|refine Wm (by omega) ?_|refine Bn ?_|refine Fm rfl ?_)|refine Bt ?_|refine Bu ?_|refine Cl.mk (c1) ?_|refine Cl.mk (l32Held_spec h hs hh) ?_)
 (conv=>whnf)
 refine Lp.mk (ι := Nat) (fun i => [(3, .hold .one (rIntS .own [])), (4, .hold .one (rIntS .own (liveS h.Spans h.Larges))), (5, .hold .one (rIntS .own (holders h))), (6, .hold .one [I ((i : Nat) : Int)])]) (fun i => i ≤ (liveS h.Spans h.Larges).length) (fun i => (liveS h.Spans h.Larges).length - i) (0) ?_ (Nat.zero_le _) fun i hi => ?_
 ·repeat' (first|exact trivial|rfl |refine And.intro ?_ ?_|(exact wkI (by first|omega|(simp only; omega)|(simp; omega))))
 by_cases li : i < (liveS h.Spans h.Larges).length
 ·have hx := get_nth li
  have c4 := l08Has_spec (holders h) (nth (liveS h.Spans h.Larges) i) (by omega)
  rw [decide_eq_true (live_held hh (nth_mem li))] at c4
  repeat' ((conv=>whnf);first|with_reducible (first|refine Lm ?_|refine Wm (by omega) ?_|refine dT (by omega) (fun hq => ?_)|refine Ix.nat (get_map hx) ?_|refine Bn ?_|refine Fm rfl ?_)|refine Bt ?_|refine Bu ?_|refine Rw.one rfl (get_map hx) rfl ?_|refine Cl.eq (c4) ⟨⟨rfl, rIntS_fz _⟩, ⟨rfl, rfl⟩, trivial⟩ ?_)
  ((conv=>whnf);refine Nx.mk (i + 1) (by omega) (by omega) ?_; (repeat' (first|exact trivial|rfl|refine And.intro ?_ ?_|(exact wkI (by first|omega|(simp only; omega)|(simp; omega))))))
 ·obtain rfl : i = (liveS h.Spans h.Larges).length := by omega
  repeat' ((conv=>whnf);first|with_reducible (first|refine Lm ?_|refine Wm (by omega) ?_|refine dF (by omega) (fun hq => ?_)|refine Bn ?_|refine Fm rfl ?_)|refine Bt ?_|refine Bu ?_)
  rfl
/- the program's -/
def atAddr (a : Int) (o : DObj) : Bool := decide (o.Addr = a)
def hasA (a : Int) (l : List Int) : Bool := decide (a ∈ l)
def cacheHas (a : Int) (c : DCache) : Bool := c.Lists.any (hasA a)
theorem ObjAt_fn (o : DObj) (a : Int) : CallsA Tryz.prog 276 false [.val (some 4) (DObj.enc .imm o), .ptr [I a]] .one [B (atAddr a o)] := by
 refine fO (n := 8) [] Tryz.func276 (by kernel_rfl) rfl (by kernel_rfl) (by rfl) (.inr ⟨trivial, trivial⟩) ?_
 repeat' ((conv=>whnf);first|with_reducible (first|refine Lm ?_|refine Wm (by omega) ?_|refine Bn ?_|refine Fm rfl ?_)|refine Bt ?_|refine Bu ?_)
 exact congrArg (fun z => [B z]) ((by unfold atAddr; rw [Bool.eq_iff_iff]; simp))
theorem ObjAt_impl (h : DHeap) (a : Int) (hl : h.Objs.length ≤ 1048576) : CallsA Tryz.prog 193 false [.val (some 24) (DHeap.enc .imm h), .val none [I a]] .one [I (fstIx (atAddr a) h.Objs)] := by
 refine fO (n := 9) [] Tryz.func193 (by kernel_rfl) rfl (by kernel_rfl) (by rfl) (.inr ⟨trivial, trivial⟩) ?_
 repeat' ((conv=>whnf);first|with_reducible (first|refine Lm ?_|refine Wm (by omega) ?_|refine Bn ?_|refine Fm rfl ?_)|refine Bt ?_|refine Bu ?_|refine Cq.mk (prQ (some 4) (DObj.enc .imm) (atAddr a) h.Objs) (ObjAt_fn default a).has (fun L k rcs hQ => ?_) ?_|refine Cl.mk (IndexFunc_Obj h.Objs (atAddr a) (by omega)) ?_)
 ·obtain ⟨y, -, rfl, rfl, rfl⟩ := hQ
  exact ObjAt_fn y a
 ·rfl
theorem QuarHas_impl (q : DQuar) (a : Int) (hl : q.Lst.length ≤ 1048576) : CallsA Tryz.prog 194 false [.val (some 2) (DQuar.enc .imm q), .val none [I a]] .one [B (q.Lst.any (sameAddr a))] := by
 refine fO (n := 9) [] Tryz.func194 (by kernel_rfl) rfl (by kernel_rfl) (by rfl) (.inr ⟨trivial, trivial⟩) ?_
 repeat' ((conv=>whnf);first|with_reducible (first|refine Lm ?_|refine Wm (by omega) ?_|refine Bn ?_|refine Fm rfl ?_)|refine Bt ?_|refine Bu ?_|refine Cl.mk (hasStale_impl q.Lst a (by omega)) ?_)
 rfl
theorem IndexFunc_IntS (xs : List (List Int)) (pr : List Int → Bool) (hl : xs.length ≤ 9223372036854775807) : CallsA Tryz.prog 313 false [.val none (rIntSS .imm xs), .fn (FnOk Tryz.prog (prQ none (rIntS .imm) pr xs))] .one [I (fstIx pr xs)] := by
 refine fO (n := 19) [] Tryz.func313 (by kernel_rfl) rfl (by kernel_rfl) (by rfl) (.inr ⟨trivial, trivial⟩) ?_
 repeat' ((conv=>whnf);first|with_reducible (first|refine Lm ?_|refine Wm (by omega) ?_|refine Bn ?_|refine Fm rfl ?_)|refine Bt ?_|refine Bu ?_)
 (conv=>whnf)
 refine Lp.mk (ι := Nat) (fun i => [(0, .hold .one (rIntSS .imm xs)), (1, .fv (FnOk Tryz.prog (prQ none (rIntS .imm) pr xs))), (7, .hold .one [I xs.length]), (8, .hold .one [I (i : Nat)])]) (fun i => i ≤ xs.length ∧ ∀ (j : Nat) (z : List Int), j < i → xs[j]? = some z → pr z = false) (fun i => xs.length - i) 0 ?_ ⟨Nat.zero_le _, fun j z hj => by omega⟩ fun i hi => ?_
 ·repeat' (first|exact trivial|rfl|refine And.intro ?_ ?_|(exact wkI (by first|omega|(simp only; omega)|(simp; omega))))
 ·obtain ⟨hi, ha⟩ := hi
  by_cases hlt : i < xs.length
  ·obtain ⟨y, hy⟩ : ∃ y, xs[i]? = some y := ⟨_, List.getElem?_eq_getElem hlt⟩
   repeat' ((conv=>whnf);first|with_reducible (first|refine Lm ?_|refine Wm (by omega) ?_|refine Ix.nat (get_map hy) ?_|refine dT (by omega) (fun hq => ?_)|refine Bn ?_|refine Fm rfl ?_)|refine Bt ?_|refine Bu ?_|refine Fv.mk (k := .one) (rcs := [B (pr y)]) ⟨y, List.mem_of_getElem? hy, rfl, rfl, rfl⟩ ?_|refine Bf.P (fun hq => ?_) (fun hq => ?_))
   ·exact congrArg (fun z => [I z]) (fstIx_yes hy ‹_› ha).symm
   ·(conv=>whnf)
    refine Nx.mk (i + 1) ⟨by omega, idx_next hy (by assumption) ha⟩ (by omega) ?_
    repeat' (first|exact trivial|rfl|refine And.intro ?_ ?_|(exact wkI (by first|omega|(simp only; omega)|(simp; omega))))
  ·repeat' ((conv=>whnf);first|with_reducible (first|refine Lm ?_|refine Wm (by omega) ?_|refine dF (by omega) (fun hq => ?_)|refine Bn ?_|refine Fm rfl ?_)|refine Bt ?_|refine Bu ?_)
   exact congrArg (fun z => [I z]) (fstIx_no (by omega) ha).symm
theorem ContainsFunc_IntS (xs : List (List Int)) (pr : List Int → Bool) (hl : xs.length ≤ 9223372036854775807) : CallsA Tryz.prog 274 false [.val none (rIntSS .imm xs), .fn (FnOk Tryz.prog (prQ none (rIntS .imm) pr xs))] .one [B (xs.any pr)] := by
 refine fO (n := 9) [] Tryz.func274 (by kernel_rfl) rfl (by kernel_rfl) (by rfl) (.inr ⟨trivial, trivial⟩) ?_
 repeat' ((conv=>whnf);first|with_reducible (first|refine Lm ?_|refine Wm (by omega) ?_|refine Bn ?_|refine Fm rfl ?_)|refine Bt ?_|refine Bu ?_|refine Cl.mk (IndexFunc_IntS xs pr hl) ?_)
 exact congrArg (fun z => [B z]) (fstIx_any pr xs)
theorem IndexFunc_Cache (xs : List DCache) (pr : DCache → Bool) (hl : xs.length ≤ 9223372036854775807) : CallsA Tryz.prog 273 false [.val none (rDCacheS .imm xs), .fn (FnOk Tryz.prog (prQ (some 1) (DCache.enc .imm) pr xs))] .one [I (fstIx pr xs)] := by
 refine fO (n := 19) [] Tryz.func273 (by kernel_rfl) rfl (by kernel_rfl) (by rfl) (.inr ⟨trivial, trivial⟩) ?_
 repeat' ((conv=>whnf);first|with_reducible (first|refine Lm ?_|refine Wm (by omega) ?_|refine Bn ?_|refine Fm rfl ?_)|refine Bt ?_|refine Bu ?_)
 (conv=>whnf)
 refine Lp.mk (ι := Nat) (fun i => [(0, .hold .one (rDCacheS .imm xs)), (1, .fv (FnOk Tryz.prog (prQ (some 1) (DCache.enc .imm) pr xs))), (7, .hold .one [I xs.length]), (8, .hold .one [I (i : Nat)])]) (fun i => i ≤ xs.length ∧ ∀ (j : Nat) (z : DCache), j < i → xs[j]? = some z → pr z = false) (fun i => xs.length - i) 0 ?_ ⟨Nat.zero_le _, fun j z hj => by omega⟩ fun i hi => ?_
 ·repeat' (first|exact trivial|rfl|refine And.intro ?_ ?_|(exact wkI (by first|omega|(simp only; omega)|(simp; omega))))
 ·obtain ⟨hi, ha⟩ := hi
  by_cases hlt : i < xs.length
  ·obtain ⟨y, hy⟩ : ∃ y, xs[i]? = some y := ⟨_, List.getElem?_eq_getElem hlt⟩
   repeat' ((conv=>whnf);first|with_reducible (first|refine Lm ?_|refine Wm (by omega) ?_|refine Ix.nat (get_map hy) ?_|refine dT (by omega) (fun hq => ?_)|refine Bn ?_|refine Fm rfl ?_)|refine Bt ?_|refine Bu ?_|refine Fv.mk (k := .one) (rcs := [B (pr y)]) ⟨y, List.mem_of_getElem? hy, rfl, rfl, rfl⟩ ?_|refine Bf.P (fun hq => ?_) (fun hq => ?_))
   ·exact congrArg (fun z => [I z]) (fstIx_yes hy ‹_› ha).symm
   ·(conv=>whnf)
    refine Nx.mk (i + 1) ⟨by omega, idx_next hy (by assumption) ha⟩ (by omega) ?_
    repeat' (first|exact trivial|rfl|refine And.intro ?_ ?_|(exact wkI (by first|omega|(simp only; omega)|(simp; omega))))
  ·repeat' ((conv=>whnf);first|with_reducible (first|refine Lm ?_|refine Wm (by omega) ?_|refine dF (by omega) (fun hq => ?_)|refine Bn ?_|refine Fm rfl ?_)|refine Bt ?_|refine Bu ?_)
   exact congrArg (fun z => [I z]) (fstIx_no (by omega) ha).symm
theorem ContainsFunc_Cache (xs : List DCache) (pr : DCache → Bool) (hl : xs.length ≤ 9223372036854775807) : CallsA Tryz.prog 190 false [.val none (rDCacheS .imm xs), .fn (FnOk Tryz.prog (prQ (some 1) (DCache.enc .imm) pr xs))] .one [B (xs.any pr)] := by
 refine fO (n := 9) [] Tryz.func190 (by kernel_rfl) rfl (by kernel_rfl) (by rfl) (.inr ⟨trivial, trivial⟩) ?_
 repeat' ((conv=>whnf);first|with_reducible (first|refine Lm ?_|refine Wm (by omega) ?_|refine Bn ?_|refine Fm rfl ?_)|refine Bt ?_|refine Bu ?_|refine Cl.mk (IndexFunc_Cache xs pr hl) ?_)
 exact congrArg (fun z => [B z]) (fstIx_any pr xs)
theorem CacheHas_fn (l : List Int) (a : Int) (hl : l.length ≤ 1048576) : CallsA Tryz.prog 275 false [.val none (rIntS .imm l), .ptr [I a]] .one [B (hasA a l)] := by
 refine fO (n := 7) [] Tryz.func275 (by kernel_rfl) rfl (by kernel_rfl) (by rfl) (.inr ⟨trivial, trivial⟩) ?_
 repeat' ((conv=>whnf);first|with_reducible (first|refine Lm ?_|refine Wm (by omega) ?_|refine Bn ?_|refine Fm rfl ?_)|refine Bt ?_|refine Bu ?_|refine Cl.mk (Contains_ints l a (by omega)) ?_)
 rfl
theorem CacheHas_impl (c : DCache) (a : Int) (hs : DCache.sml c) : CallsA Tryz.prog 192 false [.val (some 1) (DCache.enc .imm c), .val none [I a]] .one [B (cacheHas a c)] := by
 have hl := hs.1
 refine fO (n := 9) [] Tryz.func192 (by kernel_rfl) rfl (by kernel_rfl) (by rfl) (.inr ⟨trivial, trivial⟩) ?_
 repeat' ((conv=>whnf);first|with_reducible (first|refine Lm ?_|refine Wm (by omega) ?_|refine Bn ?_|refine Fm rfl ?_)|refine Bt ?_|refine Bu ?_|refine Cq.mk (prQ none (rIntS .imm) (hasA a) c.Lists) (CacheHas_fn [] a (Nat.zero_le _)).has (fun L k rcs hQ => ?_) ?_|refine Cl.mk (ContainsFunc_IntS c.Lists (hasA a) (by omega)) ?_)
 ·obtain ⟨y, hy, rfl, rfl, rfl⟩ := hQ
  exact CacheHas_fn y a (hs.2 y hy)
 ·rfl
theorem Leaks_fn (c : DCache) (a : Int) (hs : DCache.sml c) : CallsA Tryz.prog 191 false [.val (some 1) (DCache.enc .imm c), .ptr [I a]] .one [B (cacheHas a c)] := by
 refine fO (n := 7) [] Tryz.func191 (by kernel_rfl) rfl (by kernel_rfl) (by rfl) (.inr ⟨trivial, trivial⟩) ?_
 repeat' ((conv=>whnf);first|with_reducible (first|refine Lm ?_|refine Wm (by omega) ?_|refine Bn ?_|refine Fm rfl ?_)|refine Bt ?_|refine Bu ?_|refine Cl.mk (CacheHas_impl c a hs) ?_)
 rfl
theorem leak_no {h : DHeap} (hh : heapS h = true) {a : Int} (ha : a ∈ liveI h.Spans h.Larges) (h1 : fstIx (atAddr a) h.Objs < 0) (h2 : h.Caches.any (cacheHas a) = false) (h3 : h.Quar.Lst.any (sameAddr a) = false) : a ∈ inFlight h.Mail := by
 obtain ⟨-, k2, -⟩ := heapS_all hh
 have hL := Lay.of k2
 have hm : a ∈ liveS h.Spans h.Larges := by
  unfold liveI sorted at ha
  rw [List.mem_mergeSort, live_iff hL] at ha
  exact ha
 have hd := live_held hh hm
 unfold holders at hd
 simp only [List.mem_append] at hd
 rcases hd with ((hd | hd) | hd) | hd
 ·obtain ⟨o, ho, rfl⟩ := List.mem_map.1 hd
  have e := fstIx_any (atAddr o.Addr) h.Objs
  rw [decide_eq_false (by omega)] at e
  have := List.any_eq_false.1 e.symm o ho
  unfold atAddr at this
  simp at this
 ·unfold cacheAddrs at hd
  obtain ⟨c, hc, hd⟩ := List.mem_flatMap.1 hd
  obtain ⟨l, hl, hd⟩ := List.mem_flatten.1 hd
  have e := List.any_eq_false.1 h2 c hc
  exact absurd (List.any_eq_true.2 ⟨l, hl, decide_eq_true hd⟩) e
 ·obtain ⟨q, hq, rfl⟩ := List.mem_map.1 hd
  have e := List.any_eq_false.1 h3 q hq
  unfold sameAddr at e
  simp at e
 ·exact hd
theorem Leaks_impl (h : DHeap) (hs : DHeap.sml h) (hh : heapS h = true) : CallsA Tryz.prog 85 false [.val (some 24) (DHeap.enc .imm h)] .one (rIntS .own []) := by
 obtain ⟨-, k2, -, -, k5, -⟩ := heapS_all hh
 have hfl := inFlight_len k5
 obtain ⟨-, -, hs1, hs2, ⟨hlo, -⟩, ⟨hlc, hlc2⟩, hsm, hsq, -⟩ := hs
 have hlq : h.Quar.Lst.length ≤ 1048576 := hsq.1
 have c1 := LiveAddrs_impl h.Spans h.Larges hs1 hs2 k2
 have hll := live0_len hs1.1 hs2.1
 refine fO (n := 53) [] Tryz.func85 (by kernel_rfl) rfl (by kernel_rfl) (by rfl) (.inr (rIntS_fr _)) ?_
 repeat' ((conv=>whnf);first|with_reducible (first|refine Lm ?_|refine Wm (by omega) ?_|refine Bn ?_|refine Fm rfl ?_)|refine Bt ?_|refine Bu ?_|refine Cl.mk (c1) ?_|refine Cl.mk (InFlight_impl h.Mail hsm) ?_)
 (conv=>whnf)
 refine Lp.mk (ι := Nat) (fun i => [(1, .hold .box (DHeap.enc .imm h)), (3, .hold .one (rIntS .own [])), (4, .hold .one (rIntS .own (inFlight h.Mail))), (16, .hold .one (rIntS .own (liveI h.Spans h.Larges))), (17, .hold .one [I ((liveI h.Spans h.Larges).length)]), (18, .hold .one [I ((i : Nat) : Int)])]) (fun i => i ≤ (liveI h.Spans h.Larges).length) (fun i => (liveI h.Spans h.Larges).length - i) (0) ?_ (Nat.zero_le _) fun i hi => ?_
 ·repeat' (first|exact trivial|rfl |refine And.intro ?_ ?_|(exact wkI (by first|omega|(simp only; omega)|(simp; omega))))
 by_cases li : i < (liveI h.Spans h.Larges).length
 ·have hx := get_nth li
  have hno := leak_no hh (nth_mem li)
  generalize nth (liveI h.Spans h.Larges) i = a at hx hno
  have c2 := ObjAt_impl h a hlo
  have c3 := ContainsFunc_Cache h.Caches (cacheHas a) (by omega)
  have c4 := QuarHas_impl h.Quar a hlq
  have c5 := Contains_ints (inFlight h.Mail) a (by omega)
  by_cases e1 : fstIx (atAddr a) h.Objs < 0
  ·cases e2 : h.Caches.any (cacheHas a) <;> rw [e2] at c3 hno
   ·cases e3 : h.Quar.Lst.any (sameAddr a) <;> rw [e3] at c4 hno
    ·rw [decide_eq_true (hno e1 rfl rfl)] at c5
     repeat' ((conv=>whnf);first|with_reducible (first|refine Lm ?_|refine Wm (by omega) ?_|refine Ix.nat (get_map hx) ?_|refine dT (by omega) (fun hq => ?_)|refine Bn ?_|refine Fm rfl ?_)|refine Bt ?_|refine Bu ?_|refine Rw.one rfl (get_map hx) rfl ?_|refine Cq.mk (prQ (some 1) (DCache.enc .imm) (cacheHas a) h.Caches) (Leaks_fn default a ⟨Nat.zero_le _, fun _ hm => by cases hm⟩).has (fun L k rcs hQ => ?_) ?_|refine Cl.mk (c3) ?_|refine Cl.mk (c2) ?_|refine Cl.mk (c4) ?_|refine Cl.eq (c5) ⟨⟨rfl, rIntS_fz _⟩, ⟨rfl, rfl⟩, trivial⟩ ?_)
     ·obtain ⟨y, hy, rfl, rfl, rfl⟩ := hQ
      exact Leaks_fn y a (hlc2 y hy)
     ·((conv=>whnf);refine Nx.mk (i + 1) (by omega) (by omega) ?_; (repeat' (first|exact trivial|rfl|refine And.intro ?_ ?_|(exact wkI (by first|omega|(simp only; omega)|(simp; omega))))))
    ·repeat' ((conv=>whnf);first|with_reducible (first|refine Lm ?_|refine Wm (by omega) ?_|refine Ix.nat (get_map hx) ?_|refine dT (by omega) (fun hq => ?_)|refine Bn ?_|refine Fm rfl ?_)|refine Bt ?_|refine Bu ?_|refine Rw.one rfl (get_map hx) rfl ?_|refine Cq.mk (prQ (some 1) (DCache.enc .imm) (cacheHas a) h.Caches) (Leaks_fn default a ⟨Nat.zero_le _, fun _ hm => by cases hm⟩).has (fun L k rcs hQ => ?_) ?_|refine Cl.mk (c3) ?_|refine Cl.mk (c2) ?_|refine Cl.mk (c4) ?_)
     ·obtain ⟨y, hy, rfl, rfl, rfl⟩ := hQ
      exact Leaks_fn y a (hlc2 y hy)
     ·((conv=>whnf);refine Nx.mk (i + 1) (by omega) (by omega) ?_; (repeat' (first|exact trivial|rfl|refine And.intro ?_ ?_|(exact wkI (by first|omega|(simp only; omega)|(simp; omega))))))
   ·repeat' ((conv=>whnf);first|with_reducible (first|refine Lm ?_|refine Wm (by omega) ?_|refine Ix.nat (get_map hx) ?_|refine dT (by omega) (fun hq => ?_)|refine Bn ?_|refine Fm rfl ?_)|refine Bt ?_|refine Bu ?_|refine Rw.one rfl (get_map hx) rfl ?_|refine Cq.mk (prQ (some 1) (DCache.enc .imm) (cacheHas a) h.Caches) (Leaks_fn default a ⟨Nat.zero_le _, fun _ hm => by cases hm⟩).has (fun L k rcs hQ => ?_) ?_|refine Cl.mk (c3) ?_|refine Cl.mk (c2) ?_)
    ·obtain ⟨y, hy, rfl, rfl, rfl⟩ := hQ
     exact Leaks_fn y a (hlc2 y hy)
    ·((conv=>whnf);refine Nx.mk (i + 1) (by omega) (by omega) ?_; (repeat' (first|exact trivial|rfl|refine And.intro ?_ ?_|(exact wkI (by first|omega|(simp only; omega)|(simp; omega))))))
  ·repeat' ((conv=>whnf);first|with_reducible (first|refine Lm ?_|refine Wm (by omega) ?_|refine Ix.nat (get_map hx) ?_|refine dT (by omega) (fun hq => ?_)|refine dF (by omega) (fun hq => ?_)|refine Bf.D (fun hq => ?_) (fun hq => ?_)|refine Bn ?_|refine Fm rfl ?_)|refine Bt ?_|refine Bu ?_|refine Rw.one rfl (get_map hx) rfl ?_|refine Cq.mk (prQ (some 1) (DCache.enc .imm) (cacheHas a) h.Caches) (Leaks_fn default a ⟨Nat.zero_le _, fun _ hm => by cases hm⟩).has (fun L k rcs hQ => ?_) ?_|refine Cl.mk (c3) ?_|refine Cl.mk (c2) ?_)
   ·obtain ⟨y, hy, rfl, rfl, rfl⟩ := hQ
    exact Leaks_fn y a (hlc2 y hy)
   ·((conv=>whnf);refine Nx.mk (i + 1) (by omega) (by omega) ?_; (repeat' (first|exact trivial|rfl|refine And.intro ?_ ?_|(exact wkI (by first|omega|(simp only; omega)|(simp; omega))))))
 ·obtain rfl : i = (liveI h.Spans h.Larges).length := by omega
  repeat' ((conv=>whnf);first|with_reducible (first|refine Lm ?_|refine Wm (by omega) ?_|refine dF (by omega) (fun hq => ?_)|refine Bn ?_|refine Fm rfl ?_)|refine Bt ?_|refine Bu ?_)
  rfl
end Go.Proofs.YtjgjnlppphejpaaGreat.Ab
/- The account of a heap and whether it fits: contracts, the reference's and the program's. No condition. -/
namespace Go.Proofs.YtjgjnlppphejpaaGreat.Ab
open Go.RowKit
set_option maxRecDepth 20000
set_option maxHeartbeats 4000000
def accL (a : DAccount) : List Int := [a.Pages, a.Mapped, a.Frames, a.Held, a.Live, a.Cached, a.Stale, a.Posted]
def accAt (a : DAccount) (i : Nat) : Bool := decide (0 ≤ nth (accL a) i ∧ nth (accL a) i ≤ 100000)
theorem acc_iff (a : DAccount) : allN (accL a).length (accAt a) = true ↔ (0 ≤ a.Pages ∧ a.Pages ≤ 100000) ∧ (0 ≤ a.Mapped ∧ a.Mapped ≤ 100000) ∧ (0 ≤ a.Frames ∧ a.Frames ≤ 100000) ∧ (0 ≤ a.Held ∧ a.Held ≤ 100000) ∧ (0 ≤ a.Live ∧ a.Live ≤ 100000) ∧ (0 ≤ a.Cached ∧ a.Cached ≤ 100000) ∧ (0 ≤ a.Stale ∧ a.Stale ≤ 100000) ∧ (0 ≤ a.Posted ∧ a.Posted ≤ 100000) := by
 rw [allN_iff]
 constructor
 ·intro h
  have f : ∀ i, i < 8 → 0 ≤ nth (accL a) i ∧ nth (accL a) i ≤ 100000 := fun i hi => by simpa [accAt] using h i hi
  exact ⟨f 0 (by omega), f 1 (by omega), f 2 (by omega), f 3 (by omega), f 4 (by omega), f 5 (by omega), f 6 (by omega), f 7 (by omega)⟩
 ·rintro ⟨h0, h1, h2, h3, h4, h5, h6, h7⟩ i hi
  have hi8 : i < 8 := hi
  unfold accAt
  rw [decide_eq_true_eq]
  obtain rfl | rfl | rfl | rfl | rfl | rfl | rfl | rfl : i = 0 ∨ i = 1 ∨ i = 2 ∨ i = 3 ∨ i = 4 ∨ i = 5 ∨ i = 6 ∨ i = 7 := by omega
  all_goals assumption
theorem accFits_no {a : DAccount} (h : allN (accL a).length (accAt a) = false) : accFits a = false := by
 unfold accFits
 refine decide_eq_false fun e => ?_
 have := (acc_iff a).2 ⟨e.1, e.2.1, e.2.2.1, e.2.2.2.1, e.2.2.2.2.1, e.2.2.2.2.2.1, e.2.2.2.2.2.2.1, e.2.2.2.2.2.2.2.1⟩
 rw [h] at this
 cases this
theorem AccountFits_spec (a : DAccount) : CallsA Tryz.prog 80 false [.val (some 8) (DAccount.enc .imm a)] .one [B (accFits a)] := by
 have hl8 : (accL a).length = 8 := rfl
 refine fO (n := 62) [] Tryz.func80 (by kernel_rfl) rfl (by kernel_rfl) (by rfl) (.inr ⟨trivial, trivial⟩) ?_
 repeat' ((conv=>whnf);first|with_reducible (first|refine Lm ?_|refine Wm (by omega) ?_|refine Bn ?_|refine Fm rfl ?_)|refine Bt ?_|refine Bu ?_)
 (conv=>whnf)
 refine Lp.mk (ι := Nat) (fun i => [(1, .hold .box (DAccount.enc .imm a)), (3, .hold .one (rIntS .own (accL a))), (4, .hold .one [I ((i : Nat) : Int)])]) (fun i => i ≤ (accL a).length ∧ allN i (accAt a) = true) (fun i => (accL a).length - i) 0 ?_ ⟨Nat.zero_le _, rfl⟩ fun i hi => ?_
 ·repeat' (first|exact trivial|rfl|refine And.intro ?_ ?_|(exact wkI (by first|omega|(simp only; omega)|(simp; omega))))
 obtain ⟨hi, ai⟩ := hi
 by_cases li : i < (accL a).length
 ·have hx := get_nth li
  have c1 := l01In_ok (nth (accL a) i) 0 100000
  rw [show decide (0 ≤ nth (accL a) i ∧ nth (accL a) i ≤ 100000) = accAt a i from rfl] at c1
  cases e : accAt a i <;> rw [e] at c1
  ·repeat' ((conv=>whnf);first|with_reducible (first|refine Lm ?_|refine Wm (by omega) ?_|refine Ix.nat (get_map hx) ?_|refine dT (by omega) (fun hq => ?_)|refine Bn ?_|refine Fm rfl ?_)|refine Bt ?_|refine Bu ?_|refine Rw.one rfl (get_map hx) rfl ?_|refine Cl.mk (c1) ?_)
   exact congrArg (fun z => [B z]) ((accFits_no (allN_no li e)).symm)
  ·repeat' ((conv=>whnf);first|with_reducible (first|refine Lm ?_|refine Wm (by omega) ?_|refine Ix.nat (get_map hx) ?_|refine dT (by omega) (fun hq => ?_)|refine Bn ?_|refine Fm rfl ?_)|refine Bt ?_|refine Bu ?_|refine Rw.one rfl (get_map hx) rfl ?_|refine Cl.mk (c1) ?_)
   ((conv=>whnf);refine Nx.mk (i + 1) ⟨by omega, allN_yes ai e⟩ (by omega) ?_; (repeat' (first|exact trivial|rfl|refine And.intro ?_ ?_|(exact wkI (by first|omega|(simp only; omega)|(simp; omega))))))
 ·obtain rfl : i = (accL a).length := by omega
  have hb := (acc_iff a).1 ai
  repeat' ((conv=>whnf);first|with_reducible (first|refine Lm ?_|refine Wm (by omega) ?_|refine dF (by omega) (fun hq => ?_)|refine Bf.D (fun hq => ?_) (fun hq => ?_)|refine Bf.E (fun hq => ?_) (fun hq => ?_)|refine Bn ?_|refine Fm rfl ?_)|refine Bt ?_|refine Bu ?_)
  all_goals exact congrArg (fun z => [B z]) ((by unfold accFits; first | (symm; exact decide_eq_false (by omega)) | (symm; exact decide_eq_true (by omega)) | exact decide_eq_decide.2 (by omega)))
theorem AccountFits_impl (a : DAccount) : CallsA Tryz.prog 86 false [.val (some 8) (DAccount.enc .imm a)] .one [B (accFits a)] := by
 have hl8 : (accL a).length = 8 := rfl
 refine fO (n := 59) [] Tryz.func86 (by kernel_rfl) rfl (by kernel_rfl) (by rfl) (.inr ⟨trivial, trivial⟩) ?_
 repeat' ((conv=>whnf);first|with_reducible (first|refine Lm ?_|refine Wm (by omega) ?_|refine Bn ?_|refine Fm rfl ?_)|refine Bt ?_|refine Bu ?_|refine Ln.mk (show List.length _ = 8 from rfl) ?_)
 (conv=>whnf)
 refine Lp.mk (ι := Nat) (fun i => [(1, .hold .box (DAccount.enc .imm a)), (21, .hold .one (rIntS .own (accL a))), (22, .hold .one [I (8)]), (23, .hold .one [I ((i : Nat) : Int)])]) (fun i => i ≤ (accL a).length ∧ allN i (accAt a) = true) (fun i => (accL a).length - i) 0 ?_ ⟨Nat.zero_le _, rfl⟩ fun i hi => ?_
 ·repeat' (first|exact trivial|rfl|refine And.intro ?_ ?_|(exact wkI (by first|omega|(simp only; omega)|(simp; omega))))
 obtain ⟨hi, ai⟩ := hi
 by_cases li : i < (accL a).length
 ·have hx := get_nth li
  have c1 := between_ok (nth (accL a) i) 0 100000
  rw [show decide (0 ≤ nth (accL a) i ∧ nth (accL a) i ≤ 100000) = accAt a i from rfl] at c1
  cases e : accAt a i <;> rw [e] at c1
  ·repeat' ((conv=>whnf);first|with_reducible (first|refine Lm ?_|refine Wm (by omega) ?_|refine Ix.nat (get_map hx) ?_|refine dT (by omega) (fun hq => ?_)|refine Bn ?_|refine Fm rfl ?_)|refine Bt ?_|refine Bu ?_|refine Rw.one rfl (get_map hx) rfl ?_|refine Cl.mk (c1) ?_)
   exact congrArg (fun z => [B z]) ((accFits_no (allN_no li e)).symm)
  ·repeat' ((conv=>whnf);first|with_reducible (first|refine Lm ?_|refine Wm (by omega) ?_|refine Ix.nat (get_map hx) ?_|refine dT (by omega) (fun hq => ?_)|refine Bn ?_|refine Fm rfl ?_)|refine Bt ?_|refine Bu ?_|refine Rw.one rfl (get_map hx) rfl ?_|refine Cl.mk (c1) ?_)
   ((conv=>whnf);refine Nx.mk (i + 1) ⟨by omega, allN_yes ai e⟩ (by omega) ?_; (repeat' (first|exact trivial|rfl|refine And.intro ?_ ?_|(exact wkI (by first|omega|(simp only; omega)|(simp; omega))))))
 ·obtain rfl : i = (accL a).length := by omega
  have hb := (acc_iff a).1 ai
  repeat' ((conv=>whnf);first|with_reducible (first|refine Lm ?_|refine Wm (by omega) ?_|refine dF (by omega) (fun hq => ?_)|refine Bf.D (fun hq => ?_) (fun hq => ?_)|refine Bf.E (fun hq => ?_) (fun hq => ?_)|refine Bn ?_|refine Fm rfl ?_)|refine Bt ?_|refine Bu ?_)
  all_goals exact congrArg (fun z => [B z]) ((by unfold accFits; first | (symm; exact decide_eq_false (by omega)) | (symm; exact decide_eq_true (by omega)) | exact decide_eq_decide.2 (by omega)))
theorem objCost_yes {o : DObj} (h : 0 ≤ classOf o.Size) : objCost o = csz (classOf o.Size) := by unfold objCost; rw [if_pos h]
theorem objCost_no {o : DObj} (h : ¬ 0 ≤ classOf o.Size) : objCost o = o.Size := by unfold objCost; rw [if_neg h]
theorem AccountOf_spec (h : DHeap) (hs : DHeap.sml h) (hw : DHeap.wf h) (hh : heapS h = true) : CallsA Tryz.prog 81 false [.val (some 24) (DHeap.enc .imm h)] .agg (DAccount.enc .own (accountOf h)) := by
 have cH := HeapOk_spec h hs hw
 rw [hh] at cH
 obtain ⟨k1, k2, -, -, k5, ⟨k6, k6b⟩, -⟩ := heapS_all hh
 have hml := mailOk_facts k5
 have hfl := inFlight_len k5
 have hos := obj_size hh
 have hoc := objCost_bd hh
 obtain ⟨hsk, -, hs1, hs2, ⟨hlo, -⟩, ⟨hlc, hlc2⟩, hsm, hsq, -⟩ := hs
 have hlq : h.Quar.Lst.length ≤ 1048576 := hsq.1
 have c1 := MappedPages_spec h.Kernel.Machine.Table hsk.1.2
 have c2 := UsedFrames_spec h.Kernel.Machine.Frames hsk.1.1
 have c3 := LiveCells_spec h.Spans h.Larges hs1 hs2 k2
 have c4 := l22Cells_ok h.Quar.Lst hsq
 have c5 := InFlight_spec h.Mail hsm
 have ho0 : sumF objCost h.Objs 0 = 0 := rfl
 have hc0 : sumF cacheCells h.Caches 0 = 0 := rfl
 have hp0 : sumF (postCost h) (inFlight h.Mail) 0 = 0 := rfl
 generalize hM : mappedPages h.Kernel.Machine.Table = M at c1
 generalize hU : usedFrames h.Kernel.Machine.Frames = U at c2
 generalize hL : liveCells h.Spans h.Larges = L at c3
 generalize hQ : quarCells h.Quar.Lst h.Quar.Lst.length = Q at c4
 refine fO (n := 114) [(4,17,[17,18,19,20,21,22,23,24,25,26,27,28,29,30,31,32,4]),(10,4,[49,50,51,52]),(11,8,[55,56,57,58,59,60,61,62]),(15,8,[72,73,74,75,76,77,78,79]),(21,15,[96,97,98,99,100,101,102,103,104,105,106,107,108,109,110])] Tryz.func81 (by kernel_rfl) rfl (by kernel_rfl) (by rfl) (.inr (DAccount.enc_fr _)) ?_
 repeat' ((conv=>whnf);first|with_reducible (first|refine Lm ?_|refine Wm (by omega) ?_|refine Bn ?_|refine Fm rfl ?_)|refine Bt ?_|refine Bu ?_|refine Cl.mk (cH) ?_|refine Cl.mk (c1) ?_|refine Cl.mk (c2) ?_|refine Cl.mk (c3) ?_)
 (conv=>whnf)
 refine Lp.mk (ι := Nat) (fun i => [(1, .hold .box (DHeap.enc .imm h)), (2, .hold .box ([I 0, I 0, I 0, I 0, I 0, I 0, I 0, I 0])), (4, .hold .box ([I (pgN h : Nat), I M, I U, I L, I (sumF objCost h.Objs i), I 0, I 0, I 0])), (5, .hold .one [I ((i : Nat) : Int)])]) (fun i => i ≤ h.Objs.length) (fun i => h.Objs.length - i) (0) ?_ (Nat.zero_le _) fun i hi => ?_
 ·repeat' (first|exact trivial|rfl |refine And.intro ?_ ?_|(exact wkI (by first|omega|(simp only; omega)|(simp; omega))))
 have hb := sumF_bd (f := objCost) (xs := h.Objs) (b := 1000) hoc i hi
 by_cases li : i < h.Objs.length
 ·have hx := get_nth li
  have hsz := hos _ (nth_mem li)
  have hst : sumF objCost h.Objs (i + 1) = sumF objCost h.Objs i + objCost (nth h.Objs i) := rfl
  have hcz := csz_bd (classOf (nth h.Objs i).Size)
  by_cases e : 0 ≤ classOf (nth h.Objs i).Size
  ·rw [objCost_yes e] at hst
   repeat' ((conv=>whnf);first|with_reducible (first|refine Lm ?_|refine Wm (by omega) ?_|refine Ix.nat (get_map hx) ?_|refine dT (by omega) (fun hq => ?_)|refine Bn ?_|refine Fm rfl ?_)|refine Bt ?_|refine Bu ?_|refine Cl.mk (ClassOf_spec _) ?_|refine Cl.mk (ClassSize_spec _) ?_)
   ((conv=>whnf);refine Nx.mk (i + 1) (by omega) (by omega) ?_; (repeat' (first|exact trivial|rfl|refine And.intro ?_ ?_|(exact wkI (by first|omega|(simp only; omega)|(simp; omega))))))
  ·rw [objCost_no e] at hst
   repeat' ((conv=>whnf);first|with_reducible (first|refine Lm ?_|refine Wm (by omega) ?_|refine Ix.nat (get_map hx) ?_|refine dT (by omega) (fun hq => ?_)|refine dF (by omega) (fun hq => ?_)|refine Bf.D (fun hq => ?_) (fun hq => ?_)|refine Bn ?_|refine Fm rfl ?_)|refine Bt ?_|refine Bu ?_|refine Cl.mk (ClassOf_spec _) ?_)
   ((conv=>whnf);refine Nx.mk (i + 1) (by omega) (by omega) ?_; (repeat' (first|exact trivial|rfl|refine And.intro ?_ ?_|(exact wkI (by first|omega|(simp only; omega)|(simp; omega))))))
 obtain rfl : i = h.Objs.length := by omega
 generalize hO : sumF objCost h.Objs h.Objs.length = O at hb
 repeat' ((conv=>whnf);first|with_reducible (first|refine Lm ?_|refine Wm (by omega) ?_|refine dF (by omega) (fun hq => ?_)|refine Bn ?_|refine Fm rfl ?_)|refine Bt ?_|refine Bu ?_)
 (conv=>whnf)
 refine Lp.mk (ι := Nat) (fun i => [(1, .hold .box (DHeap.enc .imm h)), (2, .hold .box ([I 0, I 0, I 0, I 0, I 0, I 0, I 0, I 0])), (4, .hold .box ([I (pgN h : Nat), I M, I U, I L, I O, I (sumF cacheCells h.Caches i), I 0, I 0])), (7, .hold .one [I ((i : Nat) : Int)])]) (fun i => i ≤ h.Caches.length) (fun i => h.Caches.length - i) (0) ?_ (Nat.zero_le _) fun i hi => ?_
 ·repeat' (first|exact trivial|rfl |refine And.intro ?_ ?_|(exact wkI (by first|omega|(simp only; omega)|(simp; omega))))
 have hb2 := sumF_bd (f := cacheCells) (xs := h.Caches) (b := 256) (fun c _ => cacheCells_bd c) i hi
 by_cases li : i < h.Caches.length
 ·have hx := get_nth li
  have hcb := cacheCells_bd (nth h.Caches i)
  have hst : sumF cacheCells h.Caches (i + 1) = sumF cacheCells h.Caches i + cacheCells (nth h.Caches i) := rfl
  repeat' ((conv=>whnf);first|with_reducible (first|refine Lm ?_|refine Wm (by omega) ?_|refine Ix.nat (get_map hx) ?_|refine dT (by omega) (fun hq => ?_)|refine Bn ?_|refine Fm rfl ?_)|refine Bt ?_|refine Bu ?_|refine Cl.mk (CacheCells_spec (nth h.Caches i) (hlc2 _ (nth_mem li))) ?_)
  ((conv=>whnf);refine Nx.mk (i + 1) (by omega) (by omega) ?_; (repeat' (first|exact trivial|rfl|refine And.intro ?_ ?_|(exact wkI (by first|omega|(simp only; omega)|(simp; omega))))))
 obtain rfl : i = h.Caches.length := by omega
 generalize hC : sumF cacheCells h.Caches h.Caches.length = CC at hb2
 repeat' ((conv=>whnf);first|with_reducible (first|refine Lm ?_|refine Wm (by omega) ?_|refine dF (by omega) (fun hq => ?_)|refine Bn ?_|refine Fm rfl ?_)|refine Bt ?_|refine Bu ?_|refine Cl.mk (c4) ?_|refine Cl.mk (c5) ?_)
 (conv=>whnf)
 refine Lp.mk (ι := Nat) (fun i => [(1, .hold .box (DHeap.enc .imm h)), (2, .hold .box ([I 0, I 0, I 0, I 0, I 0, I 0, I 0, I 0])), (4, .hold .box ([I (pgN h : Nat), I M, I U, I L, I O, I CC, I Q, I (sumF (postCost h) (inFlight h.Mail) i)])), (8, .hold .one (rIntS .own (inFlight h.Mail))), (9, .hold .one [I ((i : Nat) : Int)])]) (fun i => i ≤ (inFlight h.Mail).length) (fun i => (inFlight h.Mail).length - i) (0) ?_ (Nat.zero_le _) fun i hi => ?_
 ·repeat' (first|exact trivial|rfl |refine And.intro ?_ ?_|(exact wkI (by first|omega|(simp only; omega)|(simp; omega))))
 have hb3 := sumF_bd (f := postCost h) (xs := inFlight h.Mail) (b := 8) (fun a _ => csz_bd _) i hi
 by_cases li : i < (inFlight h.Mail).length
 ·have hx := get_nth li
  obtain ⟨j, hj, -, hsp, ha0, ha1⟩ := fly_at hh (nth_mem li)
  have hst : sumF (postCost h) (inFlight h.Mail) (i + 1) = sumF (postCost h) (inFlight h.Mail) i + postCost h (nth (inFlight h.Mail) i) := rfl
  rw [show postCost h (nth (inFlight h.Mail) i) = csz (nth h.Spans j).Class by unfold postCost; rw [hsp, Int.toNat_natCast]] at hst
  have hy := get_nth hj
  have hcz := csz_bd (nth h.Spans j).Class
  have q1 : IntKind.i64.wrap ((nth (inFlight h.Mail) i).tdiv 16) = nth (inFlight h.Mail) i / 16 := by rw [tdiv_pos (by omega)]; exact wrapI (by omega) (by omega)
  have c6 := SpanOn_spec h (nth (inFlight h.Mail) i / 16) hs1.1
  rw [hsp] at c6
  repeat' ((conv=>whnf);first|with_reducible (first|refine Lm ?_|refine Wm (by omega) ?_|refine Ix.nat (get_map hx) ?_|refine Ix.nat (get_map hy) ?_|refine dT (by omega) (fun hq => ?_)|refine Bn ?_|refine Fm rfl ?_)|refine Bt ?_|refine Bu ?_|refine Cd.mk (by decide) ?_|refine Wr.mk q1 ?_|refine Rw.one rfl (get_map hx) rfl ?_|refine Cl.mk (c6) ?_|refine Cl.mk (ClassSize_spec _) ?_)
  ((conv=>whnf);refine Nx.mk (i + 1) (by omega) (by omega) ?_; (repeat' (first|exact trivial|rfl|refine And.intro ?_ ?_|(exact wkI (by first|omega|(simp only; omega)|(simp; omega))))))
 obtain rfl : i = (inFlight h.Mail).length := by omega
 repeat' ((conv=>whnf);first|with_reducible (first|refine Lm ?_|refine Wm (by omega) ?_|refine dF (by omega) (fun hq => ?_)|refine Bn ?_|refine Fm rfl ?_)|refine Bt ?_|refine Bu ?_)
 unfold accountOf
 rw [hM, hU, hL, hO, hC, hQ]
 rfl
theorem AccountOf_impl (h : DHeap) (hs : DHeap.sml h) (hh : heapS h = true) : CallsA Tryz.prog 87 false [.val (some 24) (DHeap.enc .imm h)] .agg (DAccount.enc .own (accountOf h)) := by
 have cH := HeapOk_impl h hs
 rw [heap_same, hh] at cH
 obtain ⟨k1, k2, -, -, k5, ⟨k6, k6b⟩, -⟩ := heapS_all hh
 have hml := mailOk_facts k5
 have hfl := inFlight_len k5
 have hos := obj_size hh
 have hoc := objCost_bd hh
 obtain ⟨hsk, -, hs1, hs2, ⟨hlo, -⟩, ⟨hlc, hlc2⟩, hsm, hsq, -⟩ := hs
 have hlq : h.Quar.Lst.length ≤ 1048576 := hsq.1
 have c1 := MappedPages_impl h.Kernel.Machine.Table hsk.1.2
 have c2 := UsedFrames_impl h.Kernel.Machine.Frames hsk.1.1
 have c3 := LiveCells_impl h.Spans h.Larges hs1 hs2 k2
 have c4 := quarCells_impl h.Quar.Lst hsq
 have c5 := InFlight_impl h.Mail hsm
 have ho0 : sumF objCost h.Objs 0 = 0 := rfl
 have hc0 : sumF cacheCells h.Caches 0 = 0 := rfl
 have hp0 : sumF (postCost h) (inFlight h.Mail) 0 = 0 := rfl
 generalize hM : mappedPages h.Kernel.Machine.Table = M at c1
 generalize hU : usedFrames h.Kernel.Machine.Frames = U at c2
 generalize hL : liveCells h.Spans h.Larges = L at c3
 generalize hQ : quarCells h.Quar.Lst h.Quar.Lst.length = Q at c4
 refine fO (n := 103) [(3,23,[15,16,17,18,19,20,21,22,23,24,25,26,27,28,29,30,31,32,33,34,35,36,3]),(9,4,[49,50,51,52]),(15,4,[69,70,71,72]),(20,15,[84,85,86,87,88,89,90,91,92,93,94,95,96,97,98])] Tryz.func87 (by kernel_rfl) rfl (by kernel_rfl) (by rfl) (.inr (DAccount.enc_fr _)) ?_
 repeat' ((conv=>whnf);first|with_reducible (first|refine Lm ?_|refine Wm (by omega) ?_|refine Bn ?_|refine Fm rfl ?_)|refine Bt ?_|refine Bu ?_|refine Cl.mk (cH) ?_|refine Cl.mk (pagesOf_impl h) ?_|refine Cl.mk (c1) ?_|refine Cl.mk (c2) ?_|refine Cl.mk (c3) ?_|refine Cl.mk (c4) ?_)
 (conv=>whnf)
 refine Lp.mk (ι := Nat) (fun i => [(1, .hold .box (DHeap.enc .imm h)), (2, .hold .box ([I 0, I 0, I 0, I 0, I 0, I 0, I 0, I 0])), (3, .hold .box ([I (pgN h : Nat), I M, I U, I L, I (sumF objCost h.Objs i), I 0, I Q, I 0])), (38, .hold .one (rDObjS .imm h.Objs)), (39, .hold .one [I (h.Objs.length)]), (40, .hold .one [I ((i : Nat) : Int)])]) (fun i => i ≤ h.Objs.length) (fun i => h.Objs.length - i) (0) ?_ (Nat.zero_le _) fun i hi => ?_
 ·repeat' (first|exact trivial|rfl |refine And.intro ?_ ?_|(exact wkI (by first|omega|(simp only; omega)|(simp; omega))))
 have hb := sumF_bd (f := objCost) (xs := h.Objs) (b := 1000) hoc i hi
 by_cases li : i < h.Objs.length
 ·have hx := get_nth li
  have hsz := hos _ (nth_mem li)
  have hst : sumF objCost h.Objs (i + 1) = sumF objCost h.Objs i + objCost (nth h.Objs i) := rfl
  have hcz := csz_bd (classOf (nth h.Objs i).Size)
  by_cases e : 0 ≤ classOf (nth h.Objs i).Size
  ·rw [objCost_yes e] at hst
   repeat' ((conv=>whnf);first|with_reducible (first|refine Lm ?_|refine Wm (by omega) ?_|refine Ix.nat (get_map hx) ?_|refine dT (by omega) (fun hq => ?_)|refine Bn ?_|refine Fm rfl ?_)|refine Bt ?_|refine Bu ?_|refine Cl.mk (ClassOf_impl _) ?_|refine Cl.mk (ClassSize_impl _) ?_)
   ((conv=>whnf);refine Nx.mk (i + 1) (by omega) (by omega) ?_; (repeat' (first|exact trivial|rfl|refine And.intro ?_ ?_|(exact wkI (by first|omega|(simp only; omega)|(simp; omega))))))
  ·rw [objCost_no e] at hst
   repeat' ((conv=>whnf);first|with_reducible (first|refine Lm ?_|refine Wm (by omega) ?_|refine Ix.nat (get_map hx) ?_|refine dT (by omega) (fun hq => ?_)|refine dF (by omega) (fun hq => ?_)|refine Bf.D (fun hq => ?_) (fun hq => ?_)|refine Bn ?_|refine Fm rfl ?_)|refine Bt ?_|refine Bu ?_|refine Cl.mk (ClassOf_impl _) ?_)
   ((conv=>whnf);refine Nx.mk (i + 1) (by omega) (by omega) ?_; (repeat' (first|exact trivial|rfl|refine And.intro ?_ ?_|(exact wkI (by first|omega|(simp only; omega)|(simp; omega))))))
 obtain rfl : i = h.Objs.length := by omega
 generalize hO : sumF objCost h.Objs h.Objs.length = O at hb
 repeat' ((conv=>whnf);first|with_reducible (first|refine Lm ?_|refine Wm (by omega) ?_|refine dF (by omega) (fun hq => ?_)|refine Bn ?_|refine Fm rfl ?_)|refine Bt ?_|refine Bu ?_)
 (conv=>whnf)
 refine Lp.mk (ι := Nat) (fun i => [(1, .hold .box (DHeap.enc .imm h)), (2, .hold .box ([I 0, I 0, I 0, I 0, I 0, I 0, I 0, I 0])), (3, .hold .box ([I (pgN h : Nat), I M, I U, I L, I O, I (sumF cacheCells h.Caches i), I Q, I 0])), (63, .hold .one (rDCacheS .imm h.Caches)), (64, .hold .one [I (h.Caches.length)]), (65, .hold .one [I ((i : Nat) : Int)])]) (fun i => i ≤ h.Caches.length) (fun i => h.Caches.length - i) (0) ?_ (Nat.zero_le _) fun i hi => ?_
 ·repeat' (first|exact trivial|rfl |refine And.intro ?_ ?_|(exact wkI (by first|omega|(simp only; omega)|(simp; omega))))
 have hb2 := sumF_bd (f := cacheCells) (xs := h.Caches) (b := 256) (fun c _ => cacheCells_bd c) i hi
 by_cases li : i < h.Caches.length
 ·have hx := get_nth li
  have hcb := cacheCells_bd (nth h.Caches i)
  have hst : sumF cacheCells h.Caches (i + 1) = sumF cacheCells h.Caches i + cacheCells (nth h.Caches i) := rfl
  repeat' ((conv=>whnf);first|with_reducible (first|refine Lm ?_|refine Wm (by omega) ?_|refine Ix.nat (get_map hx) ?_|refine dT (by omega) (fun hq => ?_)|refine Bn ?_|refine Fm rfl ?_)|refine Bt ?_|refine Bu ?_|refine Cl.mk (CacheCells_impl (nth h.Caches i) (hlc2 _ (nth_mem li))) ?_)
  ((conv=>whnf);refine Nx.mk (i + 1) (by omega) (by omega) ?_; (repeat' (first|exact trivial|rfl|refine And.intro ?_ ?_|(exact wkI (by first|omega|(simp only; omega)|(simp; omega))))))
 obtain rfl : i = h.Caches.length := by omega
 generalize hC : sumF cacheCells h.Caches h.Caches.length = CC at hb2
 repeat' ((conv=>whnf);first|with_reducible (first|refine Lm ?_|refine Wm (by omega) ?_|refine dF (by omega) (fun hq => ?_)|refine Bn ?_|refine Fm rfl ?_)|refine Bt ?_|refine Bu ?_|refine Cl.mk (c5) ?_)
 (conv=>whnf)
 refine Lp.mk (ι := Nat) (fun i => [(1, .hold .box (DHeap.enc .imm h)), (2, .hold .box ([I 0, I 0, I 0, I 0, I 0, I 0, I 0, I 0])), (3, .hold .box ([I (pgN h : Nat), I M, I U, I L, I O, I CC, I Q, I (sumF (postCost h) (inFlight h.Mail) i)])), (78, .hold .one (rIntS .own (inFlight h.Mail))), (79, .hold .one [I ((inFlight h.Mail).length)]), (80, .hold .one [I ((i : Nat) : Int)])]) (fun i => i ≤ (inFlight h.Mail).length) (fun i => (inFlight h.Mail).length - i) (0) ?_ (Nat.zero_le _) fun i hi => ?_
 ·repeat' (first|exact trivial|rfl |refine And.intro ?_ ?_|(exact wkI (by first|omega|(simp only; omega)|(simp; omega))))
 have hb3 := sumF_bd (f := postCost h) (xs := inFlight h.Mail) (b := 8) (fun a _ => csz_bd _) i hi
 by_cases li : i < (inFlight h.Mail).length
 ·have hx := get_nth li
  obtain ⟨j, hj, hix, hsp, ha0, ha1⟩ := fly_at hh (nth_mem li)
  have hst : sumF (postCost h) (inFlight h.Mail) (i + 1) = sumF (postCost h) (inFlight h.Mail) i + postCost h (nth (inFlight h.Mail) i) := rfl
  rw [show postCost h (nth (inFlight h.Mail) i) = csz (nth h.Spans j).Class by unfold postCost; rw [hsp, Int.toNat_natCast]] at hst
  have hy : h.Spans[(denotes h.Spans h.Larges (nth (inFlight h.Mail) i)).Index.toNat]? = some (nth h.Spans j) := by rw [hix, Int.toNat_natCast]; exact get_nth hj
  have hcz := csz_bd (nth h.Spans j).Class
  repeat' ((conv=>whnf);first|with_reducible (first|refine Lm ?_|refine Wm (by omega) ?_|refine Ix.nat (get_map hx) ?_|refine dT (by omega) (fun hq => ?_)|refine Bn ?_|refine Fm rfl ?_)|refine Bt ?_|refine Bu ?_|refine Rw.one rfl (get_map hx) rfl ?_|refine Cl.mk (denotes_impl h.Spans h.Larges (nth (inFlight h.Mail) i) hs1 hs2) ?_|refine Ix.mk (by omega) (get_map hy) ?_|refine Cl.mk (ClassSize_impl _) ?_)
  ((conv=>whnf);refine Nx.mk (i + 1) (by omega) (by omega) ?_; (repeat' (first|exact trivial|rfl|refine And.intro ?_ ?_|(exact wkI (by first|omega|(simp only; omega)|(simp; omega))))))
 obtain rfl : i = (inFlight h.Mail).length := by omega
 repeat' ((conv=>whnf);first|with_reducible (first|refine Lm ?_|refine Wm (by omega) ?_|refine dF (by omega) (fun hq => ?_)|refine Bn ?_|refine Fm rfl ?_)|refine Bt ?_|refine Bu ?_)
 unfold accountOf
 rw [hM, hU, hL, hO, hC, hQ]
 rfl
end Go.Proofs.YtjgjnlppphejpaaGreat.Ab
/- Whether a page holds nothing that nobody owns: contracts, the reference's and the program's. No condition. -/
namespace Go.Proofs.YtjgjnlppphejpaaGreat.Ab
open Go.RowKit
set_option maxRecDepth 20000
set_option maxHeartbeats 4000000
theorem or64 {z1 z2 : Int} (h1 : 0 ≤ z1 ∧ z1 ≤ 65535) (h2 : 0 ≤ z2 ∧ z2 ≤ 65535) : IntKind.i64.wrap ((BitVec.ofInt IntKind.i64.bits z1 ||| BitVec.ofInt IntKind.i64.bits z2).toNat : Nat) = bor z1 z2 := by
 rw [BitVec.toNat_or, toNat64 (by omega), toNat64 (by omega)]
 have h3 := bor_bd h1 h2
 unfold bor at h3 ⊢
 exact wrapI (by omega) (by omega)
theorem UsedBits_spec (h : DHeap) (i : Nat) (hs1 : smlDSpanS h.Spans) (hst : smlT h) (hok : ∀ s ∈ h.Spans, spanOk s = true) (hi : i < h.Spans.length) : CallsA Tryz.prog 182 false [.val (some 24) (DHeap.enc .imm h), .val none [I (i : Nat)]] .one [I (usedBits h i)] := by
 have hl1 := hs1.1
 have hx := get_nth hi
 have hb0 := bits_bd hok hi
 have c1 := l01In_ok ((i : Nat) : Int) 0 ((h.Spans.length : Int) - 1)
 rw [decide_eq_true (show (0 : Int) ≤ (i : Nat) ∧ ((i : Nat) : Int) ≤ (h.Spans.length : Int) - 1 by omega)] at c1
 have c2 := FramePages_spec h (nth h.Spans i).Page hst
 have hpl := framePages_le h (nth h.Spans i).Page
 have hpn : pgN h ≤ 1048576 := hst.1
 have hub : usedBits h i = orAll h.Spans (framePages h (nth h.Spans i).Page) (nth h.Spans i).Bits (framePages h (nth h.Spans i).Page).length := rfl
 obtain ⟨ps, hps⟩ : ∃ ps, framePages h (nth h.Spans i).Page = ps := ⟨_, rfl⟩
 obtain ⟨b, hbe⟩ : ∃ b, (nth h.Spans i).Bits = b := ⟨_, rfl⟩
 rw [hps] at c2 hpl hub
 rw [hbe] at hub hb0
 rw [hub]
 have hoz : orAll h.Spans ps b 0 = b := rfl
 refine fO (n := 63) [(4,7,[22,23,24,25,26,27,28]),(11,10,[43,44,45,46,47,48,49,50,51,52])] Tryz.func182 (by kernel_rfl) rfl (by kernel_rfl) (by rfl) (.inr ⟨trivial, trivial⟩) ?_
 repeat' ((conv=>whnf);first|with_reducible (first|refine Lm ?_|refine Wm (by omega) ?_|refine Ix.nat (get_map hx) ?_|refine Bn ?_|refine Fm rfl ?_)|refine Bt ?_|refine Bu ?_|refine Cl.mk (c1) ?_|refine Cl.mk (c2) ?_)
 (conv=>whnf)
 refine Lp.mk (ι := Nat) (fun u => [(2, .hold .box (DHeap.enc .imm h)), (5, .hold .one [I (orAll h.Spans ps b u)]), (6, .hold .one (rIntS .own ps)), (7, .hold .one [I ((u : Nat) : Int)])]) (fun u => u ≤ ps.length) (fun u => ps.length - u) (0) ?_ (Nat.zero_le _) fun u hu => ?_
 ·repeat' (first|exact trivial|rfl |refine And.intro ?_ ?_|(exact wkI (by first|omega|(simp only; omega)|(simp; omega))))
 by_cases lu : u < ps.length
 ·have hy := get_nth lu
  have hob := orAll_bd hok (ps := ps) hb0 u
  repeat' ((conv=>whnf);first|with_reducible (first|refine Lm ?_|refine Wm (by omega) ?_|refine dT (by omega) (fun hq => ?_)|refine Bn ?_|refine Fm rfl ?_)|refine Bt ?_|refine Bu ?_)
  (conv=>whnf)
  refine Lp.mk (ι := Nat) (fun j => [(2, .hold .box (DHeap.enc .imm h)), (5, .hold .one [I (orOn h.Spans (nth ps u) (orAll h.Spans ps b u) j)]), (6, .hold .one (rIntS .own ps)), (7, .hold .one [I ((u : Nat) : Int)]), (8, .hold .one [I ((j : Nat) : Int)])]) (fun j => j ≤ h.Spans.length) (fun j => h.Spans.length - j) (0) ?_ (Nat.zero_le _) fun j hj => ?_
  ·repeat' (first|exact trivial|rfl |refine And.intro ?_ ?_|(exact wkI (by first|omega|(simp only; omega)|(simp; omega))))
  by_cases lj : j < h.Spans.length
  ·have hz := get_nth lj
   have hjb := orOn_bd hok (p := nth ps u) hob j hj
   by_cases e : (nth h.Spans j).Page = nth ps u
   ·have hstp : orOn h.Spans (nth ps u) (orAll h.Spans ps b u) (j + 1) = bor (orOn h.Spans (nth ps u) (orAll h.Spans ps b u) j) (nth h.Spans j).Bits := if_pos e
    repeat' ((conv=>whnf);first|with_reducible (first|refine Lm ?_|refine Wm (by omega) ?_|refine Ix.nat (get_map hy) ?_|refine Ix.nat (get_map hz) ?_|refine dT (by omega) (fun hq => ?_)|refine eT (by omega) (fun hq => ?_)|refine Bn ?_|refine Fm rfl ?_)|refine Bt ?_|refine Bu ?_|refine Rw.one rfl (get_map hy) rfl ?_|refine Wr.mk (or64 hjb (bits_bd hok lj)) ?_)
    ((conv=>whnf);refine Nx.mk (j + 1) (by omega) (by omega) ?_; (repeat' (first|exact trivial|rfl|refine And.intro ?_ ?_|(exact wkI (by first|omega|(simp only; omega)|(simp; omega))))))
   ·have hstp : orOn h.Spans (nth ps u) (orAll h.Spans ps b u) (j + 1) = orOn h.Spans (nth ps u) (orAll h.Spans ps b u) j := if_neg e
    repeat' ((conv=>whnf);first|with_reducible (first|refine Lm ?_|refine Wm (by omega) ?_|refine Ix.nat (get_map hy) ?_|refine Ix.nat (get_map hz) ?_|refine dT (by omega) (fun hq => ?_)|refine eF (by omega) (fun hq => ?_)|refine Bn ?_|refine Fm rfl ?_)|refine Bt ?_|refine Bu ?_|refine Rw.one rfl (get_map hy) rfl ?_)
    ((conv=>whnf);refine Nx.mk (j + 1) (by omega) (by omega) ?_; (repeat' (first|exact trivial|rfl|refine And.intro ?_ ?_|(exact wkI (by first|omega|(simp only; omega)|(simp; omega))))))
  ·obtain rfl : j = h.Spans.length := by omega
   repeat' ((conv=>whnf);first|with_reducible (first|refine Lm ?_|refine Wm (by omega) ?_|refine dF (by omega) (fun hq => ?_)|refine Bn ?_|refine Fm rfl ?_)|refine Bt ?_|refine Bu ?_)
   ((conv=>whnf);refine Nx.mk (u + 1) (by omega) (by omega) ?_; (repeat' (first|exact trivial|rfl|refine And.intro ?_ ?_|(exact wkI (by first|omega|(simp only; omega)|(simp; omega))))))
 ·obtain rfl : u = ps.length := by omega
  repeat' ((conv=>whnf);first|with_reducible (first|refine Lm ?_|refine Wm (by omega) ?_|refine dF (by omega) (fun hq => ?_)|refine Bn ?_|refine Fm rfl ?_)|refine Bt ?_|refine Bu ?_)
  rfl
theorem PageClear_spec (h : DHeap) (p : Nat) (hs : DHeap.sml h) (hw : DHeap.wf h) (hh : heapS h = true) (hp : p < pgN h) (hm : (nth (tbl h).Entries p).Mode ≠ 0) : CallsA Tryz.prog 82 false [.val (some 24) (DHeap.enc .imm h), .val none [I (p : Nat)]] .one [B (pageClear h p)] := by
 rw [← clear_same hh hp hm]
 have cH := HeapOk_spec h hs hw
 rw [hh] at cH
 obtain ⟨k1, k2, -⟩ := heapS_all hh
 have hL := Lay.of k2
 have hst : smlT h := hs.1.1.2
 have hpn : pgN h ≤ 1048576 := hst.1
 have c0 := PageEntry_spec h.Kernel.Machine.Table (p : Nat) hst
 obtain ⟨f0, f1⟩ := frame_in k1 ((p : Nat) : Int)
 rw [pageEntry_nat hp] at c0 f0 f1
 have hr := get_nth (xs := h.Kernel.Machine.Frames.Cells) (i := (nth h.Kernel.Machine.Table.Entries p).Frame.toNat) (by omega)
 have h16 := (row_ok k1 (j := (nth h.Kernel.Machine.Table.Entries p).Frame.toNat) (by omega)).1
 have hrow : rowOf h p = nth h.Kernel.Machine.Frames.Cells (nth h.Kernel.Machine.Table.Entries p).Frame.toNat := rfl
 rw [← hrow] at hr h16
 have hm' : (nth h.Kernel.Machine.Table.Entries p).Mode ≠ 0 := hm
 have c3 := SpanOn_spec h (p : Nat) hs.2.2.1.1
 by_cases h0 : 0 ≤ spanOn h (p : Nat)
 ·obtain ⟨i, hi, hix, hpg⟩ := spanOn_ix h0
  rw [hix] at c3
  have hsi := get_nth hi
  have hz := csz_cases (spanOk_class (hL.sok _ (nth_mem hi))).2.2
  have hub := orAll_bd hL.sok (ps := framePages h (nth h.Spans i).Page) (bits_bd hL.sok hi) (framePages h (nth h.Spans i).Page).length
  rw [show orAll h.Spans (framePages h (nth h.Spans i).Page) (nth h.Spans i).Bits (framePages h (nth h.Spans i).Page).length = usedBits h i from rfl] at hub
  refine fO (n := 84) [] Tryz.func82 (by kernel_rfl) rfl (by kernel_rfl) (by rfl) (.inr ⟨trivial, trivial⟩) ?_
  repeat' ((conv=>whnf);first|with_reducible (first|refine Lm ?_|refine Wm (by omega) ?_|refine Ix.nat (get_map hsi) ?_|refine dT (by omega) (fun hq => ?_)|refine dF (by omega) (fun hq => ?_)|refine Bf.D (fun hq => ?_) (fun hq => ?_)|refine eF (by omega) (fun hq => ?_)|refine Bn ?_|refine Fm rfl ?_)|refine Bt ?_|refine Bu ?_|refine Cl.mk (c0) ?_|refine Cl.mk (cH) ?_|refine Cl.mk (c3) ?_|refine Cl.mk (UsedBits_spec h i hs.2.2.1 hst hL.sok hi) ?_)
  (conv=>whnf)
  refine Lp.mk (ι := Nat) (fun k => [(1, .hold .one [I ((p : Nat))]), (2, .hold .box (DHeap.enc .imm h)), (5, .hold .box (DEntry.enc .own (nth h.Kernel.Machine.Table.Entries p))), (6, .hold .one [I ((i : Nat))]), (7, .hold .one [I (usedBits h i)]), (8, .hold .one [I ((nth h.Spans i).Class)]), (9, .hold .one [I ((k : Nat) : Int)])]) (fun k => k ≤ 16 ∧ allN k (fun c => skipS h p c || decide (nth (rowOf h p) c = 0)) = true) (fun k => 16 - k) 0 ?_ ⟨Nat.zero_le _, rfl⟩ fun k hk => ?_
  ·repeat' (first|exact trivial|rfl|refine And.intro ?_ ?_|(exact wkI (by first|omega|(simp only; omega)|(simp; omega))))
  obtain ⟨hk, ak⟩ := hk
  by_cases lk : k < 16
  ·have hc := get_nth (xs := rowOf h p) (i := k) (by omega)
   have hsl := slot_bd (hL.sok _ (nth_mem hi)) lk
   have q1 : IntKind.i64.wrap (((k : Nat) : Int).tdiv (csz (nth h.Spans i).Class)) = ((k : Nat) : Int) / csz (nth h.Spans i).Class := by rw [tdiv_pos (by omega)]; exact wrapI (by omega) (by omega)
   have c5 := HasSlot_spec (usedBits h i) (((k : Nat) : Int) / csz (nth h.Spans i).Class) (by omega)
   have hsk : skipS h p k = hasSlot (usedBits h i) (((k : Nat) : Int) / csz (nth h.Spans i).Class) := by unfold skipS; rw [if_pos h0, hix, Int.toNat_natCast]
   rw [← hsk] at c5
   cases e : skipS h p k <;> rw [e] at c5
   ·by_cases ev : nth (rowOf h p) k = 0
    ·repeat' ((conv=>whnf);first|with_reducible (first|refine Lm ?_|refine Wm (by omega) ?_|refine Ix.mk f0 (get_map hr) ?_|refine Ix.nat (get_map hc) ?_|refine dT (by omega) (fun hq => ?_)|refine dF (by omega) (fun hq => ?_)|refine Bf.D (fun hq => ?_) (fun hq => ?_)|refine nF (by omega) (fun hq => ?_)|refine Bn ?_|refine Fm rfl ?_)|refine Bt ?_|refine Bu ?_|refine Cl.mk (ClassSize_spec _) ?_|refine Cd.mk (by omega) ?_|refine Wr.mk q1 ?_|refine Cl.mk (c5) ?_)
     ((conv=>whnf);refine Nx.mk (k + 1) ⟨by omega, allN_yes ak (by rw [e, decide_eq_true ev]; rfl)⟩ (by omega) ?_; (repeat' (first|exact trivial|rfl|refine And.intro ?_ ?_|(exact wkI (by first|omega|(simp only; omega)|(simp; omega))))))
    ·repeat' ((conv=>whnf);first|with_reducible (first|refine Lm ?_|refine Wm (by omega) ?_|refine Ix.mk f0 (get_map hr) ?_|refine Ix.nat (get_map hc) ?_|refine dT (by omega) (fun hq => ?_)|refine dF (by omega) (fun hq => ?_)|refine Bf.D (fun hq => ?_) (fun hq => ?_)|refine nT (by omega) (fun hq => ?_)|refine Bn ?_|refine Fm rfl ?_)|refine Bt ?_|refine Bu ?_|refine Cl.mk (ClassSize_spec _) ?_|refine Cd.mk (by omega) ?_|refine Wr.mk q1 ?_|refine Cl.mk (c5) ?_)
     exact congrArg (fun z => [B z]) ((allN_no lk (by rw [e, decide_eq_false ev]; rfl)).symm)
   ·repeat' ((conv=>whnf);first|with_reducible (first|refine Lm ?_|refine Wm (by omega) ?_|refine Ix.mk f0 (get_map hr) ?_|refine Ix.nat (get_map hc) ?_|refine dT (by omega) (fun hq => ?_)|refine dF (by omega) (fun hq => ?_)|refine Bf.D (fun hq => ?_) (fun hq => ?_)|refine Bn ?_|refine Fm rfl ?_)|refine Bt ?_|refine Bu ?_|refine Cl.mk (ClassSize_spec _) ?_|refine Cd.mk (by omega) ?_|refine Wr.mk q1 ?_|refine Cl.mk (c5) ?_)
    ((conv=>whnf);refine Nx.mk (k + 1) ⟨by omega, allN_yes ak (by rw [e]; rfl)⟩ (by omega) ?_; (repeat' (first|exact trivial|rfl|refine And.intro ?_ ?_|(exact wkI (by first|omega|(simp only; omega)|(simp; omega))))))
  ·obtain rfl : k = 16 := by omega
   repeat' ((conv=>whnf);first|with_reducible (first|refine Lm ?_|refine Wm (by omega) ?_|refine dF (by omega) (fun hq => ?_)|refine Bn ?_|refine Fm rfl ?_)|refine Bt ?_|refine Bu ?_)
   exact congrArg (fun z => [B z]) (ak.symm)
 ·have hm1 : spanOn h (p : Nat) = -1 := by
   rcases fstIx_cases (atPage ((p : Nat) : Int)) h.Spans with e | ⟨n, -, e, -⟩
   ·exact e
   ·exact absurd (show (0 : Int) ≤ fstIx (atPage ((p : Nat) : Int)) h.Spans by omega) h0
  rw [hm1] at c3
  refine fO (n := 84) [] Tryz.func82 (by kernel_rfl) rfl (by kernel_rfl) (by rfl) (.inr ⟨trivial, trivial⟩) ?_
  repeat' ((conv=>whnf);first|with_reducible (first|refine Lm ?_|refine Wm (by omega) ?_|refine dT (by omega) (fun hq => ?_)|refine dF (by omega) (fun hq => ?_)|refine Bf.D (fun hq => ?_) (fun hq => ?_)|refine eF (by omega) (fun hq => ?_)|refine Bn ?_|refine Fm rfl ?_)|refine Bt ?_|refine Bu ?_|refine Cl.mk (c0) ?_|refine Cl.mk (cH) ?_|refine Cl.mk (c3) ?_)
  (conv=>whnf)
  refine Lp.mk (ι := Nat) (fun k => [(1, .hold .one [I ((p : Nat))]), (2, .hold .box (DHeap.enc .imm h)), (5, .hold .box (DEntry.enc .own (nth h.Kernel.Machine.Table.Entries p))), (6, .hold .one [I ((-1))]), (7, .hold .one [I (0)]), (8, .hold .one [I (0)]), (9, .hold .one [I ((k : Nat) : Int)])]) (fun k => k ≤ 16 ∧ allN k (fun c => skipS h p c || decide (nth (rowOf h p) c = 0)) = true) (fun k => 16 - k) 0 ?_ ⟨Nat.zero_le _, rfl⟩ fun k hk => ?_
  ·repeat' (first|exact trivial|rfl|refine And.intro ?_ ?_|(exact wkI (by first|omega|(simp only; omega)|(simp; omega))))
  obtain ⟨hk, ak⟩ := hk
  by_cases lk : k < 16
  ·have hc := get_nth (xs := rowOf h p) (i := k) (by omega)
   have c5 := Denotes_spec h.Spans h.Larges ((p : Nat) * 16 + (k : Nat)) hs.2.2.1 hs.2.2.2.1 k2 ⟨by omega, by omega⟩
   have hsk : skipS h p k = decide ((denotes h.Spans h.Larges ((p : Nat) * 16 + (k : Nat))).Kind = 3) := by unfold skipS; rw [if_neg h0, Int.mul_comm]
   by_cases e : (denotes h.Spans h.Larges ((p : Nat) * 16 + (k : Nat))).Kind = 3
   ·rw [decide_eq_true e] at hsk
    repeat' ((conv=>whnf);first|with_reducible (first|refine Lm ?_|refine Wm (by omega) ?_|refine Ix.mk f0 (get_map hr) ?_|refine Ix.nat (get_map hc) ?_|refine dT (by omega) (fun hq => ?_)|refine dF (by omega) (fun hq => ?_)|refine Bf.D (fun hq => ?_) (fun hq => ?_)|refine eT (by omega) (fun hq => ?_)|refine Bn ?_|refine Fm rfl ?_)|refine Bt ?_|refine Bu ?_|refine Cl.mk (c5) ?_)
    ((conv=>whnf);refine Nx.mk (k + 1) ⟨by omega, allN_yes ak (by rw [hsk]; rfl)⟩ (by omega) ?_; (repeat' (first|exact trivial|rfl|refine And.intro ?_ ?_|(exact wkI (by first|omega|(simp only; omega)|(simp; omega))))))
   ·rw [decide_eq_false e] at hsk
    by_cases ev : nth (rowOf h p) k = 0
    ·repeat' ((conv=>whnf);first|with_reducible (first|refine Lm ?_|refine Wm (by omega) ?_|refine Ix.mk f0 (get_map hr) ?_|refine Ix.nat (get_map hc) ?_|refine dT (by omega) (fun hq => ?_)|refine dF (by omega) (fun hq => ?_)|refine Bf.D (fun hq => ?_) (fun hq => ?_)|refine eF (by omega) (fun hq => ?_)|refine nF (by omega) (fun hq => ?_)|refine Bn ?_|refine Fm rfl ?_)|refine Bt ?_|refine Bu ?_|refine Cl.mk (c5) ?_)
     ((conv=>whnf);refine Nx.mk (k + 1) ⟨by omega, allN_yes ak (by rw [hsk, decide_eq_true ev]; rfl)⟩ (by omega) ?_; (repeat' (first|exact trivial|rfl|refine And.intro ?_ ?_|(exact wkI (by first|omega|(simp only; omega)|(simp; omega))))))
    ·repeat' ((conv=>whnf);first|with_reducible (first|refine Lm ?_|refine Wm (by omega) ?_|refine Ix.mk f0 (get_map hr) ?_|refine Ix.nat (get_map hc) ?_|refine dT (by omega) (fun hq => ?_)|refine dF (by omega) (fun hq => ?_)|refine Bf.D (fun hq => ?_) (fun hq => ?_)|refine eF (by omega) (fun hq => ?_)|refine nT (by omega) (fun hq => ?_)|refine Bn ?_|refine Fm rfl ?_)|refine Bt ?_|refine Bu ?_|refine Cl.mk (c5) ?_)
     exact congrArg (fun z => [B z]) ((allN_no lk (by rw [hsk, decide_eq_false ev]; rfl)).symm)
  ·obtain rfl : k = 16 := by omega
   repeat' ((conv=>whnf);first|with_reducible (first|refine Lm ?_|refine Wm (by omega) ?_|refine dF (by omega) (fun hq => ?_)|refine Bn ?_|refine Fm rfl ?_)|refine Bt ?_|refine Bu ?_)
   exact congrArg (fun z => [B z]) (ak.symm)
end Go.Proofs.YtjgjnlppphejpaaGreat.Ab
/- Whether a page holds nothing that nobody owns: the program's functions. No condition. -/
namespace Go.Proofs.YtjgjnlppphejpaaGreat.Ab
open Go.RowKit
set_option maxRecDepth 20000
set_option maxHeartbeats 4000000
theorem nthB_set {α : Type} [Inhabited α] (xs : List α) (j : Nat) (b : α) (hj : j < xs.length) (c : Nat) : nth (xs.set j b) c = if c = j then b else nth xs c := by
 unfold nth
 rw [List.getD_eq_getElem?_getD, List.getD_eq_getElem?_getD]
 by_cases h : c = j
 ·subst h; rw [if_pos rfl, List.getElem?_set_self hj]; rfl
 ·rw [if_neg h, List.getElem?_set_ne (fun e => h e.symm)]
theorem nth_rep {c : Nat} (hc : c < 16) : nth (List.replicate 16 false) c = false := nth_of (by rw [List.getElem?_replicate, if_pos hc])
theorem any_succ {α : Type} [Inhabited α] {xs : List α} {f : α → Bool} {i : Nat} (hi : i < xs.length) : (xs.take (i + 1)).any f = ((xs.take i).any f || f (nth xs i)) := by
 rw [List.take_add_one, get_nth hi, List.any_append]; simp
theorem PageText_impl (h : DHeap) (p : Nat) (hs : DHeap.sml h) (hh : heapS h = true) (hp : p < pgN h) (hm : (nth (tbl h).Entries p).Mode ≠ 0) : CallsA Tryz.prog 205 false [.val (some 3) (DMachine.enc .imm h.Kernel.Machine), .val none [I (p : Nat)]] .one (rIntS .own (rowOf h p)) := by
 obtain ⟨k1, -⟩ := heapS_all hh
 have hst : smlT h := hs.1.1.2
 have c0 := PageEntry_impl h.Kernel.Machine.Table (p : Nat) hst
 obtain ⟨f0, f1⟩ := frame_in k1 ((p : Nat) : Int)
 rw [pageEntry_nat hp] at c0 f0 f1
 have hr := get_nth (xs := h.Kernel.Machine.Frames.Cells) (i := (nth h.Kernel.Machine.Table.Entries p).Frame.toNat) (by omega)
 have h16 := (row_ok k1 (j := (nth h.Kernel.Machine.Table.Entries p).Frame.toNat) (by omega)).1
 have hrow : rowOf h p = nth h.Kernel.Machine.Frames.Cells (nth h.Kernel.Machine.Table.Entries p).Frame.toNat := rfl
 rw [← hrow] at hr h16
 have hm' : (nth h.Kernel.Machine.Table.Entries p).Mode ≠ 0 := hm
 have c1 := MachineOk_impl h.Kernel.Machine hs.1.1
 rw [show machineOk h.Kernel.Machine = true by unfold kernelOk at k1; simp only [Bool.and_eq_true] at k1; exact k1.1.2] at c1
 refine fO (n := 26) [] Tryz.func205 (by kernel_rfl) rfl (by kernel_rfl) (by rfl) (.inr (rIntS_fr _)) ?_
 repeat' ((conv=>whnf);first|with_reducible (first|refine Lm ?_|refine Wm (by omega) ?_|refine eF (by omega) (fun hq => ?_)|refine Ix.mk f0 (get_map hr) ?_|refine Bn ?_|refine Fm rfl ?_)|refine Bt ?_|refine Bu ?_|refine Cl.mk (c0) ?_|refine Cl.mk (c1) ?_|refine Cl.mk (copyInts_impl (rowOf h p) (by omega)) ?_)
 rfl
def setBy (h : DHeap) (p c : Nat) (s : DSpan) : Bool := decide (s.Page ∈ framePages h (p : Nat)) && inSlot s c
def maySetL (h : DHeap) (p : Nat) : List Bool := (List.range 16).map (maySet h p)
theorem nth_maySetL (h : DHeap) (p : Nat) {c : Nat} (hc : c < 16) : nth (maySetL h p) c = maySet h p c := nth_of (by unfold maySetL; simp [hc])
theorem mayBeSet_impl (h : DHeap) (p : Nat) (hs : DHeap.sml h) (hh : heapS h = true) (hp : p < pgN h) : CallsA Tryz.prog 206 false [.val (some 24) (DHeap.enc .imm h), .val none [I (p : Nat)]] .one (rBoolS .own (maySetL h p)) := by
 obtain ⟨k1, k2, -⟩ := heapS_all hh
 have hL := Lay.of k2
 have hst : smlT h := hs.1.1.2
 have hpn : pgN h ≤ 1048576 := hst.1
 have hl1 := hs.2.2.1.1
 have hl2 := hs.2.2.2.1.1
 have c1 := FramePages_impl h (p : Nat) hst
 have hpl := framePages_le h (p : Nat)
 refine fO (n := 71) [] Tryz.func206 (by kernel_rfl) rfl (by kernel_rfl) (by rfl) (.inr (rBoolS_fr _)) ?_
 repeat' ((conv=>whnf);first|with_reducible (first|refine Lm ?_|refine Wm (by omega) ?_|refine Bn ?_|refine Fm rfl ?_)|refine Bt ?_|refine Bu ?_|refine Mk.mk 16 rfl rfl (by decide) (by decide) rfl ?_|refine Cl.mk (c1) ?_)
 (conv=>whnf)
 refine Lp.mk (ι := Nat × List Bool) (fun q => [(1, .hold .one [I ((p : Nat))]), (2, .hold .box (DHeap.enc .imm h)), (5, .hold .one (rBoolS .own q.2)), (6, .hold .one (rIntS .own (framePages h (p : Nat)))), (19, .hold .one (rDSpanS .imm h.Spans)), (20, .hold .one [I (h.Spans.length)]), (21, .hold .one [I ((q.1 : Nat) : Int)])]) (fun q => q.1 ≤ h.Spans.length ∧ q.2.length = 16 ∧ ∀ c, c < 16 → nth q.2 c = (h.Spans.take q.1).any (setBy h p c)) (fun q => h.Spans.length - q.1) ((0, List.replicate 16 false)) ?_ (⟨Nat.zero_le _, by simp, fun c hc => nth_rep hc⟩) fun q hq => ?_
 ·repeat' (first|exact trivial|rfl |refine And.intro ?_ ?_|(exact wkI (by first|omega|(simp only; omega)|(simp; omega))))
 obtain ⟨i, L⟩ := q
 obtain ⟨hi, hLn, hLv⟩ := hq
 simp only at hi hLn hLv ⊢
 by_cases li : i < h.Spans.length
 ·have hx := get_nth li
  have c2 := Contains_ints (framePages h (p : Nat)) (nth h.Spans i).Page (by omega)
  by_cases e : (nth h.Spans i).Page ∈ framePages h (p : Nat)
  ·rw [decide_eq_true e] at c2
   have c3 := SpanCells_impl (nth h.Spans i) (hL.sok _ (nth_mem li))
   have hcl := scN_len (nth h.Spans i) 16
   repeat' ((conv=>whnf);first|with_reducible (first|refine Lm ?_|refine Wm (by omega) ?_|refine Ix.nat (get_map hx) ?_|refine dT (by omega) (fun hq => ?_)|refine Bn ?_|refine Fm rfl ?_)|refine Bt ?_|refine Bu ?_|refine Cl.eq (c2) ⟨⟨rfl, rIntS_fz _⟩, ⟨rfl, rfl⟩, trivial⟩ ?_|refine Cl.mk (c3) ?_)
   (conv=>whnf)
   refine Lp.mk (ι := Nat × List Bool) (fun k => [(1, .hold .one [I ((p : Nat))]), (2, .hold .box (DHeap.enc .imm h)), (5, .hold .one (rBoolS .own k.2)), (6, .hold .one (rIntS .own (framePages h (p : Nat)))), (19, .hold .one (rDSpanS .imm h.Spans)), (20, .hold .one [I (h.Spans.length)]), (21, .hold .one [I ((i : Nat) : Int)]), (30, .hold .one (rIntS .own (scN (nth h.Spans i) 16))), (31, .hold .one [I ((scN (nth h.Spans i) 16).length)]), (32, .hold .one [I ((k.1 : Nat) : Int)])]) (fun k => k.1 ≤ (scN (nth h.Spans i) 16).length ∧ k.2.length = 16 ∧ ∀ c, c < 16 → nth k.2 c = (nth L c || decide (((c : Nat) : Int) ∈ (scN (nth h.Spans i) 16).take k.1))) (fun k => (scN (nth h.Spans i) 16).length - k.1) ((0, L)) ?_ (⟨Nat.zero_le _, hLn, fun c hc => by simp⟩) fun k hk => ?_
   ·repeat' (first|exact trivial|rfl |refine And.intro ?_ ?_|(exact wkI (by first|omega|(simp only; omega)|(simp; omega))))
   obtain ⟨k, L2⟩ := k
   obtain ⟨hk, hLn2, hLv2⟩ := hk
   simp only at hk hLn2 hLv2 ⊢
   by_cases lk : k < (scN (nth h.Spans i) 16).length
   ·have hz := get_nth lk
    obtain ⟨c0, hc0, -, hce⟩ := mem_scN.1 (nth_mem lk)
    have hset := get_nth (xs := L2) (i := (nth (scN (nth h.Spans i) 16) k).toNat) (by omega)
    repeat' ((conv=>whnf);first|with_reducible (first|refine Lm ?_|refine Wm (by omega) ?_|refine Ix.nat (get_map hz) ?_|refine Ix.mk (by omega) (get_map hset) ?_|refine dT (by omega) (fun hq => ?_)|refine Bn ?_|refine Fm rfl ?_)|refine Bt ?_|refine Bu ?_|refine Rw.one rfl (get_map hz) rfl ?_|refine Pu.one rfl rfl (get_map hset) rfl (Nat.le_of_ble_eq_true rfl) rfl ?_)
    ((conv=>whnf)
     refine Nx.mk (k + 1, L2.set (nth (scN (nth h.Spans i) 16) k).toNat true) ⟨(by simp only; omega), (by simp only; rw [List.length_set]; exact hLn2), fun c hc => ?_⟩ (by simp only; omega) ?_)
    ·simp only
     rw [nthB_set _ _ _ (by omega), hLv2 c hc, List.take_add_one, hz]
     by_cases ec : c = (nth (scN (nth h.Spans i) 16) k).toNat
     ·rw [if_pos ec]
      have : ((c : Nat) : Int) = nth (scN (nth h.Spans i) 16) k := by omega
      simp [this]
     ·rw [if_neg ec]
      have : ((c : Nat) : Int) ≠ nth (scN (nth h.Spans i) 16) k := by omega
      simp [this]
    ·(repeat' (first|exact trivial|rfl|exact And.intro rfl (And.intro (congrArg (C.s Own.own) (by simp only [List.map_set]; rfl)) trivial)|refine And.intro ?_ ?_))
   ·obtain rfl : k = (scN (nth h.Spans i) 16).length := by omega
    rw [List.take_length] at hLv2
    repeat' ((conv=>whnf);first|with_reducible (first|refine Lm ?_|refine Wm (by omega) ?_|refine dF (by omega) (fun hq => ?_)|refine Bn ?_|refine Fm rfl ?_)|refine Bt ?_|refine Bu ?_)
    ((conv=>whnf);refine Nx.mk (i + 1, L2) ⟨(by simp only; omega), hLn2, fun c hc => by simp only; rw [hLv2 c hc, any_succ li, hLv c hc]; congr 1; unfold setBy; rw [decide_eq_true e, Bool.true_and, Bool.eq_iff_iff, decide_eq_true_eq, mem_scN]; exact Iff.intro (fun ⟨c1, _, h2, h3⟩ => (show c = c1 by omega) ▸ h2) (fun h2 => ⟨c, hc, h2, rfl⟩)⟩ (by simp only; omega) ?_; (repeat' (first|exact trivial|rfl|refine And.intro ?_ ?_|(exact wkI (by first|omega|(simp only; omega)|(simp; omega))))))
  ·rw [decide_eq_false e] at c2
   repeat' ((conv=>whnf);first|with_reducible (first|refine Lm ?_|refine Wm (by omega) ?_|refine Ix.nat (get_map hx) ?_|refine dT (by omega) (fun hq => ?_)|refine Bn ?_|refine Fm rfl ?_)|refine Bt ?_|refine Bu ?_|refine Cl.eq (c2) ⟨⟨rfl, rIntS_fz _⟩, ⟨rfl, rfl⟩, trivial⟩ ?_)
   ((conv=>whnf);refine Nx.mk (i + 1, L) ⟨(by simp only; omega), hLn, fun c hc => by simp only; rw [any_succ li, hLv c hc]; unfold setBy; rw [decide_eq_false e]; simp⟩ (by simp only; omega) ?_; (repeat' (first|exact trivial|rfl|refine And.intro ?_ ?_|(exact wkI (by first|omega|(simp only; omega)|(simp; omega))))))
 obtain rfl : i = h.Spans.length := by omega
 rw [List.take_length] at hLv
 repeat' ((conv=>whnf);first|with_reducible (first|refine Lm ?_|refine Wm (by omega) ?_|refine dF (by omega) (fun hq => ?_)|refine Bn ?_|refine Fm rfl ?_)|refine Bt ?_|refine Bu ?_)
 (conv=>whnf)
 refine Lp.mk (ι := Nat × List Bool) (fun q => [(1, .hold .one [I ((p : Nat))]), (5, .hold .one (rBoolS .own q.2)), (42, .hold .one (rDLargeS .imm h.Larges)), (43, .hold .one [I (h.Larges.length)]), (44, .hold .one [I ((q.1 : Nat) : Int)])]) (fun q => q.1 ≤ h.Larges.length ∧ q.2.length = 16 ∧ ∀ c, c < 16 → nth q.2 c = (nth L c || (h.Larges.take q.1).any fun l => largeHas l (16 * (p : Nat) + (c : Nat)))) (fun q => h.Larges.length - q.1) ((0, L)) ?_ (⟨Nat.zero_le _, hLn, fun c hc => by simp⟩) fun q hq => ?_
 ·repeat' (first|exact trivial|rfl |refine And.intro ?_ ?_|(exact wkI (by first|omega|(simp only; omega)|(simp; omega))))
 obtain ⟨i, L1⟩ := q
 obtain ⟨hi1, hLn1, hLv1⟩ := hq
 simp only at hi1 hLn1 hLv1 ⊢
 by_cases li : i < h.Larges.length
 ·have hx := get_nth li
  repeat' ((conv=>whnf);first|with_reducible (first|refine Lm ?_|refine Wm (by omega) ?_|refine Ix.nat (get_map hx) ?_|refine dT (by omega) (fun hq => ?_)|refine Bn ?_|refine Fm rfl ?_)|refine Bt ?_|refine Bu ?_)
  (conv=>whnf)
  refine Lp.mk (ι := Nat × List Bool) (fun k => [(1, .hold .one [I ((p : Nat))]), (5, .hold .one (rBoolS .own k.2)), (12, .hold .box (DLarge.enc .imm (nth h.Larges i))), (42, .hold .one (rDLargeS .imm h.Larges)), (43, .hold .one [I (h.Larges.length)]), (44, .hold .one [I ((i : Nat) : Int)]), (49, .hold .one [I (16)]), (50, .hold .one [I ((k.1 : Nat) : Int)])]) (fun k => k.1 ≤ 16 ∧ k.2.length = 16 ∧ ∀ c, c < 16 → nth k.2 c = (nth L1 c || (decide (c < k.1) && largeHas (nth h.Larges i) (16 * (p : Nat) + (c : Nat))))) (fun k => 16 - k.1) ((0, L1)) ?_ (⟨Nat.zero_le _, hLn1, fun c hc => by simp⟩) fun k hk => ?_
  ·repeat' (first|exact trivial|rfl |refine And.intro ?_ ?_|(exact wkI (by first|omega|(simp only; omega)|(simp; omega))))
  obtain ⟨k, L2⟩ := k
  obtain ⟨hk, hLn2, hLv2⟩ := hk
  simp only at hk hLn2 hLv2 ⊢
  by_cases lk : k < 16
  ·have hset := get_nth (xs := L2) (i := k) (by omega)
   have hkv := hLv2 k lk
   rw [decide_eq_false (Nat.lt_irrefl k), Bool.false_and, Bool.or_false] at hkv
   have c4 := LargeHas_impl (nth h.Larges i) ((p : Nat) * 16 + (k : Nat))
   have hcm : ((p : Nat) : Int) * 16 + (k : Nat) = 16 * (p : Nat) + (k : Nat) := by omega
   have hnext : ∀ b, b = (nth L1 k || largeHas (nth h.Larges i) (16 * (p : Nat) + (k : Nat))) → ∀ c, c < 16 → nth (L2.set k b) c = (nth L1 c || (decide (c < k + 1) && largeHas (nth h.Larges i) (16 * (p : Nat) + (c : Nat)))) := fun b hb c hc => by
    rw [nthB_set _ _ _ (by omega)]
    by_cases ec : c = k
    ·subst ec; rw [if_pos rfl, hb, decide_eq_true (by omega), Bool.true_and]
    ·rw [if_neg ec, hLv2 c hc]
     congr 2
     exact decide_eq_decide.2 (by omega)
   cases eb : nth L2 k <;> rw [eb] at hset hkv
   ·cases el : largeHas (nth h.Larges i) ((p : Nat) * 16 + (k : Nat)) <;> rw [el] at c4 <;> rw [hcm] at el
    ·repeat' ((conv=>whnf);first|with_reducible (first|refine Lm ?_|refine Wm (by omega) ?_|refine Ix.nat (get_map hset) ?_|refine dT (by omega) (fun hq => ?_)|refine Bn ?_|refine Fm rfl ?_)|refine Bt ?_|refine Bu ?_|refine Rw.one rfl (get_map hset) rfl ?_|refine Pu.one rfl rfl (get_map hset) rfl (Nat.le_of_ble_eq_true rfl) rfl ?_|refine Cl.mk (c4) ?_)
     ((conv=>whnf)
      refine Nx.mk (k + 1, L2.set k false) ⟨(by simp only; omega), (by simp only; rw [List.length_set]; exact hLn2), hnext false (by rw [← hkv, el]; rfl)⟩ (by simp only; omega) ?_)
     (repeat' (first|exact trivial|rfl|exact And.intro rfl (And.intro (congrArg (C.s Own.own) (by simp only [List.map_set]; rfl)) trivial)|refine And.intro ?_ ?_))
    ·repeat' ((conv=>whnf);first|with_reducible (first|refine Lm ?_|refine Wm (by omega) ?_|refine Ix.nat (get_map hset) ?_|refine dT (by omega) (fun hq => ?_)|refine Bn ?_|refine Fm rfl ?_)|refine Bt ?_|refine Bu ?_|refine Rw.one rfl (get_map hset) rfl ?_|refine Pu.one rfl rfl (get_map hset) rfl (Nat.le_of_ble_eq_true rfl) rfl ?_|refine Cl.mk (c4) ?_)
     ((conv=>whnf)
      refine Nx.mk (k + 1, L2.set k true) ⟨(by simp only; omega), (by simp only; rw [List.length_set]; exact hLn2), hnext true (by rw [← hkv, el]; rfl)⟩ (by simp only; omega) ?_)
     (repeat' (first|exact trivial|rfl|exact And.intro rfl (And.intro (congrArg (C.s Own.own) (by simp only [List.map_set]; rfl)) trivial)|refine And.intro ?_ ?_))
   ·repeat' ((conv=>whnf);first|with_reducible (first|refine Lm ?_|refine Wm (by omega) ?_|refine Ix.nat (get_map hset) ?_|refine dT (by omega) (fun hq => ?_)|refine Bn ?_|refine Fm rfl ?_)|refine Bt ?_|refine Bu ?_|refine Rw.one rfl (get_map hset) rfl ?_|refine Pu.one rfl rfl (get_map hset) rfl (Nat.le_of_ble_eq_true rfl) rfl ?_)
    ((conv=>whnf)
     refine Nx.mk (k + 1, L2.set k true) ⟨(by simp only; omega), (by simp only; rw [List.length_set]; exact hLn2), hnext true (by rw [← hkv]; rfl)⟩ (by simp only; omega) ?_)
    (repeat' (first|exact trivial|rfl|exact And.intro rfl (And.intro (congrArg (C.s Own.own) (by simp only [List.map_set]; rfl)) trivial)|refine And.intro ?_ ?_))
  ·obtain rfl : k = 16 := by omega
   repeat' ((conv=>whnf);first|with_reducible (first|refine Lm ?_|refine Wm (by omega) ?_|refine dF (by omega) (fun hq => ?_)|refine Bn ?_|refine Fm rfl ?_)|refine Bt ?_|refine Bu ?_)
   ((conv=>whnf);refine Nx.mk (i + 1, L2) ⟨(by simp only; omega), hLn2, fun c hc => by simp only; rw [hLv2 c hc, any_succ li, hLv1 c hc, decide_eq_true hc, Bool.true_and, Bool.or_assoc]⟩ (by simp only; omega) ?_; (repeat' (first|exact trivial|rfl|refine And.intro ?_ ?_|(exact wkI (by first|omega|(simp only; omega)|(simp; omega))))))
 obtain rfl : i = h.Larges.length := by omega
 rw [List.take_length] at hLv1
 have hend : L1 = maySetL h p := nth_ext (by rw [hLn1]; simp [maySetL]) fun c hc => by
  rw [hLn1] at hc
  rw [nth_maySetL h p hc, hLv1 c hc, hLv c hc]
  rfl
 rw [hend]
 repeat' ((conv=>whnf);first|with_reducible (first|refine Lm ?_|refine Wm (by omega) ?_|refine dF (by omega) (fun hq => ?_)|refine Bn ?_|refine Fm rfl ?_)|refine Bt ?_|refine Bu ?_)
 rfl
theorem PageClear_impl (h : DHeap) (p : Nat) (hs : DHeap.sml h) (hh : heapS h = true) (hp : p < pgN h) (hm : (nth (tbl h).Entries p).Mode ≠ 0) : CallsA Tryz.prog 89 false [.val (some 24) (DHeap.enc .imm h), .val none [I (p : Nat)]] .one [B (pageClear h p)] := by
 have cH := HeapOk_impl h hs
 rw [heap_same, hh] at cH
 obtain ⟨k1, -⟩ := heapS_all hh
 obtain ⟨f0, f1⟩ := frame_in k1 ((p : Nat) : Int)
 rw [pageEntry_nat hp] at f0 f1
 have h16 : (rowOf h p).length = 16 := (row_ok k1 (j := (nth h.Kernel.Machine.Table.Entries p).Frame.toNat) (by omega)).1
 have hml : (maySetL h p).length = 16 := by simp [maySetL]
 have hne : (rowOf h p).map (rI .own) ≠ [] := fun e => by have := congrArg List.length e; rw [List.length_map, h16] at this; cases this
 refine fO (n := 39) [] Tryz.func89 (by kernel_rfl) rfl (by kernel_rfl) (by rfl) (.inr ⟨trivial, trivial⟩) ?_
 repeat' ((conv=>whnf);first|with_reducible (first|refine Lm ?_|refine Wm (by omega) ?_|refine Bn ?_|refine Fm rfl ?_)|refine Bt ?_|refine Bu ?_|refine Cl.mk (cH) ?_|refine Cl.mk (PageText_impl h p hs hh hp hm) ?_|refine Nn.mk hne ?_|refine Cl.mk (mayBeSet_impl h p hs hh hp) ?_)
 (conv=>whnf)
 refine Lp.mk (ι := Nat) (fun k => [(5, .hold .one (rIntS .own (rowOf h p))), (6, .hold .one (rBoolS .own (maySetL h p))), (22, .bor 5 0 [] none), (23, .hold .one [I (16)]), (24, .hold .one [I ((k : Nat) : Int)])]) (fun k => k ≤ 16 ∧ allN k (fun c => decide (nth (rowOf h p) c = 0) || maySet h p c) = true) (fun k => 16 - k) 0 ?_ ⟨Nat.zero_le _, rfl⟩ fun k hk => ?_
 ·repeat' (first|exact trivial|rfl|refine And.intro ?_ ?_|(exact wkI (by first|omega|(simp only; omega)|(simp; omega))))
 obtain ⟨hk, ak⟩ := hk
 by_cases lk : k < 16
 ·have hc := get_nth (xs := rowOf h p) (i := k) (by omega)
  have hb := get_nth (xs := maySetL h p) (i := k) (by omega)
  rw [nth_maySetL h p lk] at hb
  by_cases ev : nth (rowOf h p) k = 0
  ·repeat' ((conv=>whnf);first|with_reducible (first|refine Lm ?_|refine Wm (by omega) ?_|refine Ix.nat (get_map hc) ?_|refine dT (by omega) (fun hq => ?_)|refine nF (by omega) (fun hq => ?_)|refine Bn ?_|refine Fm rfl ?_)|refine Bt ?_|refine Bu ?_|refine Rw.one rfl (get_map hc) rfl ?_)
   ((conv=>whnf);refine Nx.mk (k + 1) ⟨by omega, allN_yes ak (by rw [decide_eq_true ev]; rfl)⟩ (by omega) ?_; (repeat' (first|exact trivial|rfl|refine And.intro ?_ ?_|(exact wkI (by first|omega|(simp only; omega)|(simp; omega))))))
  ·cases em : maySet h p k <;> rw [em] at hb
   ·repeat' ((conv=>whnf);first|with_reducible (first|refine Lm ?_|refine Wm (by omega) ?_|refine Ix.nat (get_map hc) ?_|refine Ix.nat (get_map hb) ?_|refine dT (by omega) (fun hq => ?_)|refine nT (by omega) (fun hq => ?_)|refine Bn ?_|refine Fm rfl ?_)|refine Bt ?_|refine Bu ?_|refine Rw.one rfl (get_map hc) rfl ?_|refine Rw.one rfl (get_map hb) rfl ?_)
    exact congrArg (fun z => [B z]) ((allN_no lk (by rw [decide_eq_false ev, em]; rfl)).symm)
   ·repeat' ((conv=>whnf);first|with_reducible (first|refine Lm ?_|refine Wm (by omega) ?_|refine Ix.nat (get_map hc) ?_|refine Ix.nat (get_map hb) ?_|refine dT (by omega) (fun hq => ?_)|refine nT (by omega) (fun hq => ?_)|refine Bn ?_|refine Fm rfl ?_)|refine Bt ?_|refine Bu ?_|refine Rw.one rfl (get_map hc) rfl ?_|refine Rw.one rfl (get_map hb) rfl ?_)
    ((conv=>whnf);refine Nx.mk (k + 1) ⟨by omega, allN_yes ak (by rw [em, Bool.or_true])⟩ (by omega) ?_; (repeat' (first|exact trivial|rfl|refine And.intro ?_ ?_|(exact wkI (by first|omega|(simp only; omega)|(simp; omega))))))
 ·obtain rfl : k = 16 := by omega
  repeat' ((conv=>whnf);first|with_reducible (first|refine Lm ?_|refine Wm (by omega) ?_|refine dF (by omega) (fun hq => ?_)|refine Bn ?_|refine Fm rfl ?_)|refine Bt ?_|refine Bu ?_)
  exact congrArg (fun z => [B z]) (ak.symm)
end Go.Proofs.YtjgjnlppphejpaaGreat.Ab
