/- Contracts of CacheOk and CacheCells, the reference's and the program's. No condition. -/
import Derived.Test.YthinjmmlpgjhnaaGreatCb
namespace Go.Proofs.YthinjmmlpgjhnaaGreat.Ab
open Go.RowKit
set_option maxRecDepth 20000
set_option maxHeartbeats 4000000
def good (k : Int) (s : List Int) (a : Int) : Prop := 0 ≤ a ∧ a ≤ 511 ∧ a.tmod (csz k) = 0 ∧ a ∉ s
instance (k : Int) (s : List Int) (a : Int) : Decidable (good k s a) := by unfold good; exact inferInstance
def okL (k : Int) : List Int → List Int → Option (List Int)
  | s, [] => some s
  | s, a :: l => if good k s a then okL k (s ++ [a]) l else none
def okStep (k : Nat) (s l : List Int) : Option (List Int) := if l.length ≤ 8 ∧ k ≤ 3 then okL k s l else none
def okLL : Nat → List Int → List (List Int) → Option (List Int)
  | _, s, [] => some s
  | k, s, l :: ls => (okStep k s l).bind fun s' => okLL (k + 1) s' ls
def cacheOk (c : DCache) : Bool := decide (c.Lists.length = 4) && (okLL 0 [] c.Lists).isSome
theorem okL_append (k : Int) : ∀ (a s b : List Int), okL k s (a ++ b) = (okL k s a).bind fun s' => okL k s' b
  | [], s, b => rfl
  | x :: a, s, b => by
    simp only [List.cons_append, okL]
    split
    · exact okL_append k a _ b
    · rfl
theorem okLL_append : ∀ (a : List (List Int)) (k : Nat) (s : List Int) (b : List (List Int)), okLL k s (a ++ b) = (okLL k s a).bind fun s' => okLL (k + a.length) s' b
  | [], k, s, b => rfl
  | l :: a, k, s, b => by
    simp only [List.cons_append, okLL, Option.bind_assoc, List.length_cons]
    congr 1; funext s'
    rw [okLL_append a (k + 1) s' b, show k + 1 + a.length = k + (a.length + 1) by omega]
theorem okL_yes {k : Int} {l s0 s : List Int} {j : Nat} {a : Int} (hj : l[j]? = some a) (h : okL k s0 (l.take j) = some s) (hg : good k s a) : okL k s0 (l.take (j + 1)) = some (s ++ [a]) := by
  rw [List.take_add_one, hj, Option.toList_some, okL_append, h]
  simp [okL, hg]
theorem okL_no {k : Nat} {l s0 s : List Int} {j : Nat} {a : Int} (hj : l[j]? = some a) (h : okL k s0 (l.take j) = some s) (hg : ¬ good k s a) : okStep k s0 l = none := by
  unfold okStep
  split
  · have : l = l.take j ++ (a :: l.drop (j + 1)) := by
      obtain ⟨hjl, rfl⟩ := List.getElem?_eq_some_iff.1 hj
      rw [← List.drop_eq_getElem_cons hjl, List.take_append_drop]
    rw [this, okL_append, h]
    simp [okL, hg]
  · rfl
theorem okL_len {k : Int} : ∀ {l s s' : List Int}, okL k s l = some s' → s'.length = s.length + l.length
  | [], s, s', h => by simp only [okL, Option.some.injEq] at h; subst h; simp
  | a :: l, s, s', h => by
    simp only [okL] at h
    split at h
    · have := okL_len h; simp at this ⊢; omega
    · cases h
theorem okLL_take {ls : List (List Int)} {i : Nat} {l s : List Int} (hi : ls[i]? = some l) (h : okLL 0 [] (ls.take i) = some s) : okLL 0 [] (ls.take (i + 1)) = okStep i s l := by
  have hl := (List.getElem?_eq_some_iff.1 hi).1
  rw [List.take_add_one, hi, Option.toList_some, okLL_append, h]
  simp only [Option.bind_some, okLL, Nat.zero_add, List.length_take, Nat.min_eq_left (Nat.le_of_lt hl)]
  cases okStep i s l <;> rfl
theorem cacheOk_no {c : DCache} {i : Nat} {l s : List Int} (hi : c.Lists[i]? = some l) (h : okLL 0 [] (c.Lists.take i) = some s) (hn : okStep i s l = none) : cacheOk c = false := by
  have h1 := okLL_take hi h
  rw [hn] at h1
  have h2 : okLL 0 [] c.Lists = none := by
    rw [← List.take_append_drop (i + 1) c.Lists, okLL_append, h1]; rfl
  unfold cacheOk; rw [h2]; simp
theorem okLL_len : ∀ {ls : List (List Int)} {k : Nat} {s s' : List Int}, okLL k s ls = some s' → s'.length ≤ s.length + 8 * ls.length
  | [], k, s, s', h => by simp only [okLL, Option.some.injEq] at h; subst h; simp
  | l :: ls, k, s, s', h => by
    simp only [okLL] at h
    unfold okStep at h
    split at h
    · cases ho : okL k s l with
      | none => rw [ho] at h; cases h
      | some s2 =>
        rw [ho] at h
        have h1 := okL_len ho
        have h2 := okLL_len (show okLL (k + 1) s2 ls = some s' from h)
        simp only [List.length_cons]; omega
    · cases h
theorem csz_ne {i : Nat} (h : i ≤ 3) : csz (i : Int) ≠ 0 := by
  obtain rfl | rfl | rfl | rfl : i = 0 ∨ i = 1 ∨ i = 2 ∨ i = 3 := by omega
  all_goals decide
theorem rowI_one {l : List Int} : ∀ r ∈ l.map (rI .own), r.length = 1 := by
  intro r hr; obtain ⟨z, -, rfl⟩ := List.mem_map.1 hr; rfl
theorem CacheOk_spec (c : DCache) (hs : DCache.sml c) : CallsA Tryz.prog 87 false [.val (some 1) (DCache.enc .imm c)] .one [B (cacheOk c)] := by
  have hl := hs.1
  refine fnOk (n := 60) (mo := []) (tb := []) Tryz.func87 (by kernel_rfl) rfl (by kernel_rfl) (by rfl) (.inr ⟨trivial, trivial⟩) ?_
  repeat' ((conv => whnf); first | with_reducible (first | refine Ln.mk (List.length_map ..) ?_ | refine Wr.mk (wrapI (by omega) (by omega)) ?_ | refine Bf.N (fun hq => ?_) (fun hq => ?_) | refine Bf.not ?_ | refine Fin_.mk rfl ?_) | refine Bf.t rfl ?_ | refine Bf.f rfl ?_)
  · exact congrArg (fun z => [B z]) (by symm; unfold cacheOk; rw [decide_eq_false (by omega)]; rfl)
  have h4 : c.Lists.length = 4 := by omega
  (conv => whnf)
  refine Lp.mk (ι := Nat × List Int) (fun i => [(1, .hold .box (DCache.enc .imm c)), (3, .hold .one (rIntS .own i.2)), (4, .hold .one [I (i.1 : Nat)])]) (fun i => i.1 ≤ 4 ∧ okLL 0 [] (c.Lists.take i.1) = some i.2) (fun i => 4 - i.1) (0, []) ?_ ⟨Nat.zero_le _, rfl⟩ fun i hi => ?_
  · repeat' (first | exact trivial | rfl | refine And.intro ?_ ?_)
  · obtain ⟨i, s⟩ := i
    obtain ⟨hi, hok⟩ := hi
    simp only at hi hok ⊢
    have hsl := okLL_len hok
    rw [List.length_take] at hsl
    simp only [List.length_nil] at hsl
    by_cases hlt : i < 4
    · obtain ⟨l, hli⟩ : ∃ l, c.Lists[i]? = some l := ⟨_, List.getElem?_eq_getElem (by omega)⟩
      have hll : l.length ≤ 1048576 := hs.2 l (List.mem_of_getElem? hli)
      repeat' ((conv => whnf); first | with_reducible (first | refine Ln.mk (List.length_map ..) ?_ | refine Wr.mk (wrapI (by omega) (by omega)) ?_ | refine Ix.nat (get_map hli) ?_ | refine Bf.D (fun hq => ?_) (fun hq => absurd hq (by omega)) | refine Bf.D (fun hq => ?_) (fun hq => ?_) | refine Bf.not ?_ | refine Fin_.mk rfl ?_) | refine Bf.t rfl ?_ | refine Bf.f rfl ?_)
      · exact congrArg (fun z => [B z]) (cacheOk_no hli hok (by unfold okStep; rw [if_neg (by omega)])).symm
      have hl8 : l.length ≤ 8 := by omega
      (conv => whnf)
      refine Lp.mk (ι := Nat × List Int) (fun j => [(1, .hold .box (DCache.enc .imm c)), (3, .hold .one (rIntS .own j.2)), (4, .hold .one [I (i : Nat)]), (5, .hold .one [I (j.1 : Nat)])]) (fun j => j.1 ≤ l.length ∧ okL i s (l.take j.1) = some j.2) (fun j => l.length - j.1) (0, s) ?_ ⟨Nat.zero_le _, rfl⟩ fun j hj => ?_
      · repeat' (first | exact trivial | rfl | refine And.intro ?_ ?_)
      · obtain ⟨j, s2⟩ := j
        obtain ⟨hj, hok2⟩ := hj
        simp only at hj hok2 ⊢
        have hsl2 := okL_len hok2
        rw [List.length_take] at hsl2
        by_cases hjl : j < l.length
        · obtain ⟨y, hy⟩ : ∃ y, l[j]? = some y := ⟨_, List.getElem?_eq_getElem hjl⟩
          repeat' ((conv => whnf); first | with_reducible (first | refine Ln.mk (List.length_map ..) ?_ | refine Wr.mk (wrapI (by omega) (by omega)) ?_ | refine Ix.nat (get_map hli) ?_ | refine Ix.nat (get_map hy) ?_ | refine Bf.D (fun hq => ?_) (fun hq => absurd hq (by omega)) | refine Bf.D (fun hq => ?_) (fun hq => ?_) | refine Bf.N (fun hq => ?_) (fun hq => ?_) | refine Bf.not ?_ | refine Fin_.mk rfl ?_) | refine Bf.t rfl ?_ | refine Bf.f rfl ?_ | refine Cl.mk (l01In_ok y 0 511) ?_ | refine Cl.mk (ClassSize_spec (i : Nat)) ?_ | refine Cd.mk (csz_ne (by omega)) ?_ | refine Ev.mk rfl ?_ | refine Cl.eq (l08Has_ok s2 y (by omega)) ⟨⟨rfl, rIntS_fz _⟩, ⟨rfl, rfl⟩, trivial⟩ ?_ | refine Ap.mk rowI_one (fun r hr => by rw [List.mem_singleton.1 hr]; rfl) (by simp [noOwn, isOwn]) (by simp; omega) (by simp only [List.length_map]; exact mkB (by simp; omega) (by decide)) rfl ?_)
          all_goals first
            | exact congrArg (fun z => [B z]) (cacheOk_no hli hok (okL_no hy hok2 fun ⟨g1, g2, g3, g4⟩ => by first | contradiction | omega)).symm
            | ((conv => whnf)
               refine Nx.mk (j + 1, s2 ++ [y]) ⟨(by simp only; omega), okL_yes hy hok2 ⟨(by omega), (by omega), (by assumption), (by assumption)⟩⟩ (by simp only; omega) ?_
               (repeat' (first | exact trivial | rfl | exact And.intro rfl (And.intro (congrArg (C.s Own.own) (by simp [rI])) trivial) | refine And.intro ?_ ?_)))
        · repeat' ((conv => whnf); first | with_reducible (first | refine Ln.mk (List.length_map ..) ?_ | refine Wr.mk (wrapI (by omega) (by omega)) ?_ | refine Ix.nat (get_map hli) ?_ | refine Bf.D (fun hq => absurd hq (by omega)) (fun hq => ?_) | refine Bf.not ?_ | refine Fin_.mk rfl ?_) | refine Bf.t rfl ?_ | refine Bf.f rfl ?_)
          (conv => whnf)
          rw [List.take_of_length_le (by omega)] at hok2
          refine Nx.mk (i + 1, s2) ⟨(by simp only; omega), (by rw [okLL_take hli hok]; unfold okStep; rw [if_pos ⟨hl8, by omega⟩]; exact hok2)⟩ (by simp only; omega) ?_
          repeat' (first | exact trivial | rfl | refine And.intro ?_ ?_)
    · repeat' ((conv => whnf); first | with_reducible (first | refine Ln.mk (List.length_map ..) ?_ | refine Wr.mk (wrapI (by omega) (by omega)) ?_ | refine Bf.D (fun hq => absurd hq (by omega)) (fun hq => ?_) | refine Bf.not ?_ | refine Fin_.mk rfl ?_) | refine Bf.t rfl ?_ | refine Bf.f rfl ?_)
      rw [List.take_of_length_le (by omega)] at hok
      exact congrArg (fun z => [B z]) (by symm; unfold cacheOk; rw [hok, decide_eq_true h4]; rfl)
def seenM (s : List Int) : List (Int × Value) := s.map fun a => (a, .bool true)
theorem mlook_seen (a : Int) : ∀ (s : List Int), mlook (seenM s) a (.bool false) = .bool (decide (a ∈ s))
  | [] => by simp [seenM, mlook]
  | x :: s => by
    have ih := mlook_seen a s
    simp only [seenM, List.map_cons, mlook] at ih ⊢
    by_cases h : x = a
    · rw [if_pos h]; simp [h]
    · rw [if_neg h, ih]
      congr 1
      simp [show ¬ a = x from fun e => h e.symm]
theorem mput_seen {a : Int} : ∀ {s : List Int}, a ∉ s → seenM (s ++ [a]) = mput (seenM s) a (.bool true)
  | [], _ => rfl
  | x :: s, h => by
    simp only [List.mem_cons, not_or] at h
    have ih := mput_seen h.2
    simp only [seenM, List.cons_append, List.map_cons, mput] at ih ⊢
    rw [if_neg fun e => h.1 e.symm, ih]
theorem okStep_k {k : Nat} {s l : List Int} (h : ¬ k ≤ 3) : okStep k s l = none := by unfold okStep; rw [if_neg fun e => h e.2]
theorem CacheOk_impl (c : DCache) (hs : DCache.sml c) : CallsA Tryz.prog 89 false [.val (some 1) (DCache.enc .imm c)] .one [B (cacheOk c)] := by
  have hl := hs.1
  refine fnOk (n := 54) (mo := []) (tb := []) Tryz.func89 (by kernel_rfl) rfl (by kernel_rfl) (by rfl) (.inr ⟨trivial, trivial⟩) ?_
  repeat' ((conv => whnf); first | with_reducible (first | refine Ln.mk (List.length_map ..) ?_ | refine Wr.mk (wrapI (by omega) (by omega)) ?_ | refine Bf.not ?_ | refine Fin_.mk rfl ?_) | refine Bf.t rfl ?_ | refine Bf.f rfl ?_)
  (conv => whnf)
  refine Lp.mk (ι := Nat × List Int) (fun i => [(1, .hold .box (DCache.enc .imm c)), (3, .hold .one [.m (seenM i.2)]), (10, .hold .one (rIntSS .imm c.Lists)), (11, .hold .one [I c.Lists.length]), (12, .hold .one [I (i.1 : Nat)])]) (fun i => i.1 ≤ c.Lists.length ∧ okLL 0 [] (c.Lists.take i.1) = some i.2) (fun i => c.Lists.length - i.1) (0, []) ?_ ⟨Nat.zero_le _, rfl⟩ fun i hi => ?_
  · repeat' (first | exact trivial | rfl | refine And.intro ?_ ?_)
  · obtain ⟨i, s⟩ := i
    obtain ⟨hi, hok⟩ := hi
    simp only at hi hok ⊢
    by_cases hlt : i < c.Lists.length
    · obtain ⟨l, hli⟩ : ∃ l, c.Lists[i]? = some l := ⟨_, List.getElem?_eq_getElem hlt⟩
      have hll : l.length ≤ 1048576 := hs.2 l (List.mem_of_getElem? hli)
      repeat' ((conv => whnf); first | with_reducible (first | refine Ln.mk (List.length_map ..) ?_ | refine Wr.mk (wrapI (by omega) (by omega)) ?_ | refine Ix.nat (get_map hli) ?_ | refine Bf.D (fun hq => ?_) (fun hq => absurd hq (by omega)) | refine Bf.D (fun hq => ?_) (fun hq => ?_) | refine Bf.not ?_ | refine Fin_.mk rfl ?_) | refine Bf.t rfl ?_ | refine Bf.f rfl ?_ | refine Cl.mk (classOk_ok (i : Nat)) ?_)
      · exact congrArg (fun z => [B z]) (cacheOk_no hli hok (by unfold okStep; rw [if_neg (by omega)])).symm
      rotate_left
      · exact congrArg (fun z => [B z]) (cacheOk_no hli hok (by unfold okStep; rw [if_neg (by omega)])).symm
      have hl8 : l.length ≤ 8 := by omega
      have hi3 : i ≤ 3 := by omega
      (conv => whnf)
      refine Lp.mk (ι := Nat × List Int) (fun j => [(1, .hold .box (DCache.enc .imm c)), (3, .hold .one [.m (seenM j.2)]), (4, .hold .one [I (i : Nat)]), (10, .hold .one (rIntSS .imm c.Lists)), (11, .hold .one [I c.Lists.length]), (12, .hold .one [I (i : Nat)]), (25, .hold .one (rIntS .imm l)), (26, .hold .one [I l.length]), (27, .hold .one [I (j.1 : Nat)])]) (fun j => j.1 ≤ l.length ∧ okL i s (l.take j.1) = some j.2) (fun j => l.length - j.1) (0, s) ?_ ⟨Nat.zero_le _, rfl⟩ fun j hj => ?_
      · repeat' (first | exact trivial | rfl | refine And.intro ?_ ?_)
      · obtain ⟨j, s2⟩ := j
        obtain ⟨hj, hok2⟩ := hj
        simp only at hj hok2 ⊢
        by_cases hjl : j < l.length
        · obtain ⟨y, hy⟩ : ∃ y, l[j]? = some y := ⟨_, List.getElem?_eq_getElem hjl⟩
          repeat' ((conv => whnf); first | with_reducible (first | refine Ln.mk (List.length_map ..) ?_ | refine Wr.mk (wrapI (by omega) (by omega)) ?_ | refine Ix.nat (get_map hli) ?_ | refine Ix.nat (get_map hy) ?_ | refine Bf.D (fun hq => ?_) (fun hq => absurd hq (by omega)) | refine Bf.D (fun hq => ?_) (fun hq => ?_) | refine Bf.N (fun hq => ?_) (fun hq => ?_) | refine Bf.not ?_ | refine Fin_.mk rfl ?_) | refine Bf.t rfl ?_ | refine Bf.f rfl ?_ | refine Cl.mk (between_ok y 0 511) ?_ | refine Cl.mk (ClassSize_impl (i : Nat)) ?_ | refine Cd.mk (csz_ne (by omega)) ?_ | refine Ev.mk rfl ?_ | refine Ml.mk (mlook_seen y s2) ?_ | refine Mu.mk (mput_seen (by assumption)) ?_)
          all_goals first
            | exact congrArg (fun z => [B z]) (cacheOk_no hli hok (okL_no hy hok2 fun ⟨g1, g2, g3, g4⟩ => by first | contradiction | omega)).symm
            | ((conv => whnf)
               refine Nx.mk (j + 1, s2 ++ [y]) ⟨(by simp only; omega), okL_yes hy hok2 ⟨(by omega), (by omega), (by assumption), (by assumption)⟩⟩ (by simp only; omega) ?_
               (repeat' (first | exact trivial | rfl | refine And.intro ?_ ?_)))
        · repeat' ((conv => whnf); first | with_reducible (first | refine Ln.mk (List.length_map ..) ?_ | refine Wr.mk (wrapI (by omega) (by omega)) ?_ | refine Bf.D (fun hq => absurd hq (by omega)) (fun hq => ?_) | refine Bf.not ?_ | refine Fin_.mk rfl ?_) | refine Bf.t rfl ?_ | refine Bf.f rfl ?_)
          (conv => whnf)
          rw [List.take_of_length_le (by omega)] at hok2
          refine Nx.mk (i + 1, s2) ⟨(by simp only; omega), (by rw [okLL_take hli hok]; unfold okStep; rw [if_pos ⟨hl8, hi3⟩]; exact hok2)⟩ (by simp only; omega) ?_
          repeat' (first | exact trivial | rfl | refine And.intro ?_ ?_)
    · repeat' ((conv => whnf); first | with_reducible (first | refine Ln.mk (List.length_map ..) ?_ | refine Wr.mk (wrapI (by omega) (by omega)) ?_ | refine Bf.D (fun hq => absurd hq (by omega)) (fun hq => ?_) | refine Bf.not ?_ | refine Fin_.mk rfl ?_) | refine Bf.t rfl ?_ | refine Bf.f rfl ?_)
      rw [List.take_of_length_le (by omega)] at hok
      have h4 : ((c.Lists.length : Int) == 4) = decide (c.Lists.length = 4) := by
        by_cases h4 : c.Lists.length = 4
        · simp [h4]
        · rw [decide_eq_false h4]; simp; omega
      exact congrArg (fun z => [B z]) (h4.trans (by unfold cacheOk; rw [hok]; simp))
/-- What lies in a cache, in cells. -/
def cacheSum : Nat → List (List Int) → Int
  | _, [] => 0
  | k, l :: ls => l.length * csz k + cacheSum (k + 1) ls
def cacheCells (c : DCache) : Int := if cacheOk c then cacheSum 0 c.Lists else 0
theorem cacheSum_append : ∀ (a : List (List Int)) (k : Nat) (l : List Int), cacheSum k (a ++ [l]) = cacheSum k a + l.length * csz (k + a.length : Nat)
  | [], k, l => by simp [cacheSum]
  | x :: a, k, l => by
    simp only [List.cons_append, cacheSum, List.length_cons]
    rw [cacheSum_append a (k + 1) l, show k + 1 + a.length = k + (a.length + 1) by omega]
    omega
theorem cacheSum_take {ls : List (List Int)} {i : Nat} {l : List Int} (hi : ls[i]? = some l) : cacheSum 0 (ls.take (i + 1)) = cacheSum 0 (ls.take i) + l.length * csz i := by
  have hl := (List.getElem?_eq_some_iff.1 hi).1
  rw [List.take_add_one, hi, Option.toList_some, cacheSum_append]
  simp only [Nat.zero_add, List.length_take, Nat.min_eq_left (Nat.le_of_lt hl)]
theorem okLL_le : ∀ {ls : List (List Int)} {k : Nat} {s s' : List Int}, okLL k s ls = some s' → ∀ l ∈ ls, l.length ≤ 8
  | [], k, s, s', h, l, hm => by simp at hm
  | x :: ls, k, s, s', h, l, hm => by
    simp only [okLL] at h
    unfold okStep at h
    split at h
    · rename_i hc
      rcases List.mem_cons.1 hm with rfl | hm
      · exact hc.1
      · cases ho : okL k s x with
        | none => rw [ho] at h; cases h
        | some s2 => rw [ho] at h; exact okLL_le (show okLL (k + 1) s2 ls = some s' from h) l hm
    · cases h
theorem cacheOk_yes {c : DCache} (h : cacheOk c = true) : c.Lists.length = 4 ∧ ∀ l ∈ c.Lists, l.length ≤ 8 := by
  unfold cacheOk at h
  simp only [Bool.and_eq_true, decide_eq_true_eq] at h
  obtain ⟨s, hs⟩ := Option.isSome_iff_exists.1 h.2
  exact ⟨h.1, okLL_le hs⟩
theorem csz_le (i : Nat) : 0 ≤ csz (i : Int) ∧ csz (i : Int) ≤ 8 := by
  by_cases h : i ≤ 3
  · obtain rfl | rfl | rfl | rfl : i = 0 ∨ i = 1 ∨ i = 2 ∨ i = 3 := by omega
    all_goals decide
  · unfold csz; rw [if_neg (by omega)]; decide
theorem prod_le {n : Nat} {k : Int} (hn : n ≤ 8) (h0 : 0 ≤ k) (h8 : k ≤ 8) : 0 ≤ (n : Int) * k ∧ (n : Int) * k ≤ 64 := by
  refine ⟨Int.mul_nonneg (by omega) h0, ?_⟩
  have h1 : (n : Int) * k ≤ 8 * k := Int.mul_le_mul_of_nonneg_right (by omega) h0
  omega
theorem CacheCells_spec (c : DCache) (hs : DCache.sml c) : CallsA Tryz.prog 52 false [.val (some 1) (DCache.enc .imm c)] .one [I (cacheCells c)] := by
  have hl := hs.1
  refine fnOk (n := 28) (mo := []) (tb := [(5,11,[16,17,18,19,20,21,22,23,24,25,26])]) Tryz.func52 (by kernel_rfl) rfl (by kernel_rfl) (by rfl) (.inr ⟨trivial, trivial⟩) ?_
  repeat' ((conv => whnf); first | with_reducible (first | refine Ln.mk (List.length_map ..) ?_ | refine Wr.mk (wrapI (by omega) (by omega)) ?_ | refine Bf.not ?_ | refine Fin_.mk rfl ?_) | refine Bf.t rfl ?_ | refine Bf.f rfl ?_)
  (conv => whnf)
  refine Lp.mk (ι := Nat) (fun i => [(1, .hold .box (DCache.enc .imm c)), (3, .hold .one [I (cacheSum 0 (c.Lists.take i))]), (4, .hold .one [I (i : Nat)])]) (fun i => i ≤ c.Lists.length ∧ (0 < i → cacheOk c = true) ∧ 0 ≤ cacheSum 0 (c.Lists.take i) ∧ cacheSum 0 (c.Lists.take i) ≤ 64 * (i : Nat)) (fun i => c.Lists.length - i) 0 ?_ ⟨Nat.zero_le _, fun h => by omega, by simp [cacheSum], by simp [cacheSum]⟩ fun i hi => ?_
  · repeat' (first | exact trivial | rfl | refine And.intro ?_ ?_)
  · obtain ⟨hi, hok, hn0, hn1⟩ := hi
    by_cases hlt : i < c.Lists.length
    · obtain ⟨l, hli⟩ : ∃ l, c.Lists[i]? = some l := ⟨_, List.getElem?_eq_getElem hlt⟩
      cases hc : cacheOk c with
      | false =>
        have hi0 : i = 0 := by
          rcases Nat.eq_zero_or_pos i with h | h
          · exact h
          · rw [hok h] at hc; cases hc
        subst hi0
        have hcs := CacheOk_spec c hs
        rw [hc] at hcs
        repeat' ((conv => whnf); first | with_reducible (first | refine Ln.mk (List.length_map ..) ?_ | refine Wr.mk (wrapI (by omega) (by omega)) ?_ | refine Bf.D (fun hq => ?_) (fun hq => absurd hq (by omega)) | refine Bf.not ?_ | refine Fin_.mk rfl ?_) | refine Bf.t rfl ?_ | refine Bf.f rfl ?_ | refine Cl.mk hcs ?_)
        exact congrArg (fun z => [I z]) (by unfold cacheCells; rw [hc]; simp [cacheSum])
      | true =>
        obtain ⟨hc4, hc8⟩ := cacheOk_yes hc
        have hl8 := hc8 l (List.mem_of_getElem? hli)
        have hz := csz_le i
        have hp := prod_le hl8 hz.1 hz.2
        have hcs := CacheOk_spec c hs
        rw [hc] at hcs
        repeat' ((conv => whnf); first | with_reducible (first | refine Ln.mk (List.length_map ..) ?_ | refine Wr.mk (wrapI (by omega) (by omega)) ?_ | refine Ix.nat (get_map hli) ?_ | refine Bf.D (fun hq => ?_) (fun hq => absurd hq (by omega)) | refine Bf.not ?_ | refine Fin_.mk rfl ?_) | refine Bf.t rfl ?_ | refine Bf.f rfl ?_ | refine Cl.mk hcs ?_ | refine Cl.mk (ClassSize_spec (i : Nat)) ?_)
        (conv => whnf)
        refine Nx.mk (i + 1) ⟨by omega, fun _ => rfl, by rw [cacheSum_take hli]; omega, by rw [cacheSum_take hli]; omega⟩ (by omega) ?_
        rw [cacheSum_take hli]
        repeat' (first | exact trivial | rfl | refine And.intro ?_ ?_)
    · cases hc : cacheOk c with
      | false =>
        have hcs := CacheOk_spec c hs
        rw [hc] at hcs
        repeat' ((conv => whnf); first | with_reducible (first | refine Ln.mk (List.length_map ..) ?_ | refine Wr.mk (wrapI (by omega) (by omega)) ?_ | refine Bf.D (fun hq => absurd hq (by omega)) (fun hq => ?_) | refine Bf.not ?_ | refine Fin_.mk rfl ?_) | refine Bf.t rfl ?_ | refine Bf.f rfl ?_ | refine Cl.mk hcs ?_)
        have hi0 : i = 0 := by
          rcases Nat.eq_zero_or_pos i with h | h
          · exact h
          · rw [hok h] at hc; cases hc
        subst hi0
        exact congrArg (fun z => [I z]) (by unfold cacheCells; rw [hc]; simp [cacheSum])
      | true =>
        repeat' ((conv => whnf); first | with_reducible (first | refine Ln.mk (List.length_map ..) ?_ | refine Wr.mk (wrapI (by omega) (by omega)) ?_ | refine Bf.D (fun hq => absurd hq (by omega)) (fun hq => ?_) | refine Bf.not ?_ | refine Fin_.mk rfl ?_) | refine Bf.t rfl ?_ | refine Bf.f rfl ?_)
        rw [List.take_of_length_le (by omega)]
        exact congrArg (fun z => [I z]) (by unfold cacheCells; rw [hc]; rfl)
theorem CacheCells_impl (c : DCache) (hs : DCache.sml c) : CallsA Tryz.prog 53 false [.val (some 1) (DCache.enc .imm c)] .one [I (cacheCells c)] := by
  have hl := hs.1
  cases hc : cacheOk c with
  | false =>
    have hcs := CacheOk_impl c hs
    rw [hc] at hcs
    refine fnOk (n := 26) (mo := []) (tb := []) Tryz.func53 (by kernel_rfl) rfl (by kernel_rfl) (by rfl) (.inr ⟨trivial, trivial⟩) ?_
    repeat' ((conv => whnf); first | with_reducible (first | refine Ln.mk (List.length_map ..) ?_ | refine Wr.mk (wrapI (by omega) (by omega)) ?_ | refine Bf.not ?_ | refine Fin_.mk rfl ?_) | refine Bf.t rfl ?_ | refine Bf.f rfl ?_ | refine Cl.mk hcs ?_)
    exact congrArg (fun z => [I z]) (by unfold cacheCells; rw [hc]; rfl)
  | true =>
    obtain ⟨hc4, hc8⟩ := cacheOk_yes hc
    have hcs := CacheOk_impl c hs
    rw [hc] at hcs
    refine fnOk (n := 26) (mo := []) (tb := []) Tryz.func53 (by kernel_rfl) rfl (by kernel_rfl) (by rfl) (.inr ⟨trivial, trivial⟩) ?_
    repeat' ((conv => whnf); first | with_reducible (first | refine Ln.mk (List.length_map ..) ?_ | refine Wr.mk (wrapI (by omega) (by omega)) ?_ | refine Bf.not ?_ | refine Fin_.mk rfl ?_) | refine Bf.t rfl ?_ | refine Bf.f rfl ?_ | refine Cl.mk hcs ?_)
    (conv => whnf)
    refine Lp.mk (ι := Nat) (fun i => [(1, .hold .box (DCache.enc .imm c)), (3, .hold .one [I (cacheSum 0 (c.Lists.take i))]), (10, .hold .one (rIntSS .imm c.Lists)), (11, .hold .one [I c.Lists.length]), (12, .hold .one [I (i : Nat)])]) (fun i => i ≤ c.Lists.length ∧ 0 ≤ cacheSum 0 (c.Lists.take i) ∧ cacheSum 0 (c.Lists.take i) ≤ 64 * (i : Nat)) (fun i => c.Lists.length - i) 0 ?_ ⟨Nat.zero_le _, by simp [cacheSum], by simp [cacheSum]⟩ fun i hi => ?_
    · repeat' (first | exact trivial | rfl | refine And.intro ?_ ?_)
    · obtain ⟨hi, hn0, hn1⟩ := hi
      by_cases hlt : i < c.Lists.length
      · obtain ⟨l, hli⟩ : ∃ l, c.Lists[i]? = some l := ⟨_, List.getElem?_eq_getElem hlt⟩
        have hl8 := hc8 l (List.mem_of_getElem? hli)
        have hz := csz_le i
        have hp := prod_le hl8 hz.1 hz.2
        repeat' ((conv => whnf); first | with_reducible (first | refine Ln.mk (List.length_map ..) ?_ | refine Wr.mk (wrapI (by omega) (by omega)) ?_ | refine Ix.nat (get_map hli) ?_ | refine Bf.D (fun hq => ?_) (fun hq => absurd hq (by omega)) | refine Bf.not ?_ | refine Fin_.mk rfl ?_) | refine Bf.t rfl ?_ | refine Bf.f rfl ?_ | refine Cl.mk (ClassSize_impl (i : Nat)) ?_)
        (conv => whnf)
        refine Nx.mk (i + 1) ⟨by omega, by rw [cacheSum_take hli]; omega, by rw [cacheSum_take hli]; omega⟩ (by omega) ?_
        rw [cacheSum_take hli]
        repeat' (first | exact trivial | rfl | refine And.intro ?_ ?_)
      · repeat' ((conv => whnf); first | with_reducible (first | refine Ln.mk (List.length_map ..) ?_ | refine Wr.mk (wrapI (by omega) (by omega)) ?_ | refine Bf.D (fun hq => absurd hq (by omega)) (fun hq => ?_) | refine Bf.not ?_ | refine Fin_.mk rfl ?_) | refine Bf.t rfl ?_ | refine Bf.f rfl ?_)
        rw [List.take_of_length_le (by omega)]
        exact congrArg (fun z => [I z]) (by unfold cacheCells; rw [hc]; rfl)
end Go.Proofs.YthinjmmlpgjhnaaGreat.Ab
