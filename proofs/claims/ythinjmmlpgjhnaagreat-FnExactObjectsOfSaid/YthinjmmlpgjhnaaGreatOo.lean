/- Contracts of ObjectsOf, the reference's and the program's: the names of a thread's objects, in their order. No condition. -/
import Derived.Test.YthinjmmlpgjhnaaGreatDat
namespace Go.Proofs.YthinjmmlpgjhnaaGreat.Ab
open Go.RowKit
set_option maxRecDepth 20000
set_option maxHeartbeats 2000000
def objsOf (l : List DObj) (t : Int) : List Int := (l.filter fun o => o.Thread == t).map (·.Id)
theorem objsOf_le (l : List DObj) (t : Int) : (objsOf l t).length ≤ l.length := by
  unfold objsOf; rw [List.length_map]; exact List.length_filter_le _ _
theorem objsOf_yes {l : List DObj} {t : Int} {i : Nat} {o : DObj} (h : l[i]? = some o) (ht : o.Thread = t) : objsOf (l.take (i + 1)) t = objsOf (l.take i) t ++ [o.Id] := by
  unfold objsOf; rw [List.take_add_one, h]; simp [List.filter_append, ht]
theorem objsOf_no {l : List DObj} {t : Int} {i : Nat} {o : DObj} (h : l[i]? = some o) (ht : o.Thread ≠ t) : objsOf (l.take (i + 1)) t = objsOf (l.take i) t := by
  unfold objsOf; rw [List.take_add_one, h]; simp [List.filter_append, ht]
theorem rowI_one {l : List Int} : ∀ r ∈ l.map (rI .own), r.length = 1 := by
  intro r hr; obtain ⟨z, -, rfl⟩ := List.mem_map.1 hr; rfl
theorem ObjectsOf_spec (h : DHeap) (t : Int) (hs : smlDObjS h.Objs) : CallsA Tryz.prog 6 false [.val (some 24) (DHeap.enc .imm h), .val none [I t]] .one (rIntS .own (objsOf h.Objs t)) := by
  refine fnOk (n := 33) (mo := []) (tb := []) Tryz.func6 (by kernel_rfl) rfl (by kernel_rfl) (by rfl) (.inr (rIntS_fr _)) ?_
  have hl := hs.1
  repeat' ((conv => whnf); first | with_reducible (first | refine Ln.mk (List.length_map ..) ?_ | refine Wr.mk (wrapI (by omega) (by omega)) ?_))
  (conv => whnf)
  refine Lp.mk (ι := Nat) (fun i => [(1, .hold .one [I t]), (2, .hold .box (DHeap.enc .imm h)), (5, .hold .one (rIntS .own (objsOf (h.Objs.take i) t))), (6, .hold .one [I (i : Nat)])]) (fun i => i ≤ h.Objs.length) (fun i => h.Objs.length - i) 0 ?_ (Nat.zero_le _) fun i hi => ?_
  · repeat' (first | exact trivial | rfl | refine And.intro ?_ ?_)
  · have hol := objsOf_le (h.Objs.take i) t
    rw [List.length_take] at hol
    by_cases hlt : i < h.Objs.length
    · obtain ⟨o, ho⟩ : ∃ o, h.Objs[i]? = some o := ⟨_, List.getElem?_eq_getElem hlt⟩
      repeat' ((conv => whnf); first | with_reducible (first | refine Ln.mk (List.length_map ..) ?_ | refine Wr.mk (wrapI (by omega) (by omega)) ?_ | refine Ix.nat (get_map ho) ?_ | refine Bf.D (fun h => ?_) (fun h => absurd h (by omega)) | refine Bf.E (fun h => ?_) (fun h => ?_)) | refine Ap.mk rowI_one (fun r hr => by rw [List.mem_singleton.1 hr]; rfl) (by simp [noOwn, isOwn]) (by simp; omega) (by simp only [List.length_map]; exact mkB (by simp; omega) (by decide)) rfl ?_ | refine Nx.mk (i + 1) (by omega) (by omega) ?_)
      · rw [objsOf_yes (t := t) ho (by assumption)]
        repeat' (first | exact trivial | rfl | exact And.intro rfl (And.intro (congrArg (C.s Own.own) (by simp [rI])) trivial) | refine And.intro ?_ ?_)
      · rw [objsOf_no (t := t) ho (by assumption)]
        repeat' (first | exact trivial | rfl | refine And.intro ?_ ?_)
    · repeat' ((conv => whnf); first | with_reducible (first | refine Ln.mk (List.length_map ..) ?_ | refine Wr.mk (wrapI (by omega) (by omega)) ?_ | refine Bf.D (fun h => absurd h (by omega)) (fun h => ?_) | refine Fin_.mk rfl ?_))
      rw [List.take_of_length_le (by omega)]
      rfl
theorem ObjectsOf_impl (h : DHeap) (t : Int) (hs : smlDObjS h.Objs) : CallsA Tryz.prog 8 false [.val (some 24) (DHeap.enc .imm h), .val none [I t]] .one (rIntS .own (objsOf h.Objs t)) := by
  refine fnOk (n := 27) (mo := []) (tb := []) Tryz.func8 (by kernel_rfl) rfl (by kernel_rfl) (by rfl) (.inr (rIntS_fr _)) ?_
  have hl := hs.1
  repeat' ((conv => whnf); first | with_reducible (first | refine Ln.mk (List.length_map ..) ?_ | refine Wr.mk (wrapI (by omega) (by omega)) ?_))
  (conv => whnf)
  refine Lp.mk (ι := Nat) (fun i => [(1, .hold .one [I t]), (5, .hold .one (rIntS .own (objsOf (h.Objs.take i) t))), (10, .hold .one (rDObjS .imm h.Objs)), (11, .hold .one [I h.Objs.length]), (12, .hold .one [I (i : Nat)])]) (fun i => i ≤ h.Objs.length) (fun i => h.Objs.length - i) 0 ?_ (Nat.zero_le _) fun i hi => ?_
  · repeat' (first | exact trivial | rfl | refine And.intro ?_ ?_)
  · have hol := objsOf_le (h.Objs.take i) t
    rw [List.length_take] at hol
    by_cases hlt : i < h.Objs.length
    · obtain ⟨o, ho⟩ : ∃ o, h.Objs[i]? = some o := ⟨_, List.getElem?_eq_getElem hlt⟩
      repeat' ((conv => whnf); first | with_reducible (first | refine Ln.mk (List.length_map ..) ?_ | refine Wr.mk (wrapI (by omega) (by omega)) ?_ | refine Ix.nat (get_map ho) ?_ | refine Bf.D (fun h => ?_) (fun h => absurd h (by omega)) | refine Bf.E (fun h => ?_) (fun h => ?_)) | refine Ap.mk rowI_one (fun r hr => by rw [List.mem_singleton.1 hr]; rfl) (by simp [noOwn, isOwn]) (by simp; omega) (by simp only [List.length_map]; exact mkB (by simp; omega) (by decide)) rfl ?_ | refine Nx.mk (i + 1) (by omega) (by omega) ?_)
      · rw [objsOf_yes (t := t) ho (by assumption)]
        repeat' (first | exact trivial | rfl | exact And.intro rfl (And.intro (congrArg (C.s Own.own) (by simp [rI])) trivial) | refine And.intro ?_ ?_)
      · rw [objsOf_no (t := t) ho (by assumption)]
        repeat' (first | exact trivial | rfl | refine And.intro ?_ ?_)
    · repeat' ((conv => whnf); first | with_reducible (first | refine Ln.mk (List.length_map ..) ?_ | refine Wr.mk (wrapI (by omega) (by omega)) ?_ | refine Bf.D (fun h => absurd h (by omega)) (fun h => ?_) | refine Fin_.mk rfl ?_))
      rw [List.take_of_length_le (by omega)]
      rfl
end Go.Proofs.YthinjmmlpgjhnaaGreat.Ab
