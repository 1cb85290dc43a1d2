/- The library's SortFunc at facts, by their numbers, on data of the call's own. No condition. -/
import Derived.Test.YtjgjnlppphejpaaGreatMn
import Derived.Test.YtjgjnlppphejpaaGreatMj
import Derived.Test.YtjgjnlppphejpaaGreatShelg
import Derived.WalkKit

namespace Go.Proofs.YtjgjnlppphejpaaGreat.Ab
open Go.RowKit
set_option maxRecDepth 20000
set_option maxHeartbeats 4000000
def clp (z : Int) : Int := if z < 0 then 0 else if 1000000 < z then 1000000 else z
theorem clp_bd (z : Int) : 0 ≤ clp z ∧ clp z ≤ 1000000 := by unfold clp; split <;> (try split) <;> omega
theorem clp_in {z : Int} (h : 0 ≤ z ∧ z ≤ 1000000) : clp z = z := by unfold clp; rw [if_neg (by omega), if_neg (by omega)]
def encF (x : DFact) : List Value := [.int .i64 (clp x.Id), .int .i64 x.Size, .int .i64 x.Sum]
def cfF (x y : DFact) : Int := clp x.Id - clp y.Id
theorem ltF (x y : DFact) : Go.Proofs.ltOf cfF x y = decide (clp x.Id < clp y.Id) := by
  unfold Go.Proofs.ltOf cfF; rw [decide_eq_decide]; omega
theorem swoF : Go.Sort.SWO (Go.Proofs.ltOf cfF) where
  irrefl x := by rw [ltF]; simp
  trans x y z h1 h2 := by rw [ltF] at *; simp at *; omega
  ntrans x y z h1 h2 := by rw [ltF] at *; simp at *; omega
theorem less_run (x y : DFact) (W : World) : Calls Tryz.prog 94 #[.agg #[.int .i64 (clp x.Id), .int .i64 x.Size, .int .i64 x.Sum], .agg #[.int .i64 (clp y.Id), .int .i64 y.Size, .int .i64 y.Sum]] W fun e w' => e = .returned (.int .i64 (cfF x y)) ∧ ∃ q os', w' = Sort.grow (W.drewN q) os' := by
  have hx := clp_bd x.Id
  have hy := clp_bd y.Id
  have hw : IntKind.i64.wrap (clp x.Id - clp y.Id) = cfF x y := wrapI (by omega) (by omega)
  generalize cfF x y = r at hw ⊢
  generalize clp x.Id = a at hw ⊢
  generalize clp y.Id = b at hw ⊢
  go_enter Tryz.func94, Tryz.ntmps94
  go_wp2
  go_ret
  refine ⟨?_, 0, _, by rw [Sort.alloc_eq_grow, Sort.alloc_eq_grow, Sort.grow_grow]; rfl⟩
  rfl
/-- The world behind a sort. -/
theorem sort_worldV {w w' : World} {g n : Nat} {d : Array Value} {os : Array Obj} {c : Array Value} {e : TypeId} {fr : Nat × Nat} (hg : w.heap[g]? = some (.cells c e fr)) (hw : w' = Sort.grow (Sort.putRow id (Sort.ahead w n) g 0 d) os) :
    w'.os = w.os ∧ w'.tape = w.tape ∧ w'.output = w.output ∧ w.heap.size ≤ w'.heap.size ∧ (∀ b, b < w.heap.size → b ≠ g → w'.heap[b]? = w.heap[b]?) ∧ w'.heap[g]? = some (.cells (Sort.putCells id 0 d c) e fr) := by
  subst hw
  have hlt : g < w.heap.size := (Array.getElem?_eq_some_iff.1 hg).1
  have hh : ∀ b, b < w.heap.size → (Sort.grow (Sort.putRow id (Sort.ahead w n) g 0 d) os).heap[b]? = if g = b then (w.heap[b]?).map (Sort.onCells (Sort.putCells id 0 d)) else w.heap[b]? := fun b hb => by
    rw [Sort.heap_grow_old _ _ (by simpa [Sort.putRow, Sort.mapBlock, Sort.ahead] using hb)]
    show (w.heap.modify g _)[b]? = _
    rw [Array.getElem?_modify]
  refine ⟨rfl, rfl, rfl, ?_, fun b hb hne => ?_, ?_⟩
  · show w.heap.size ≤ ((w.heap.modify g _) ++ os).size
    simp
  · rw [hh b hb, if_neg fun e => hne e.symm]
  · rw [hh g hlt, if_pos rfl, hg]; rfl
theorem put_getV (d : Array Value) (c : Array Value) (q : Nat) : (Sort.putCells id 0 d c)[q]? = if q < d.size then (c[q]?).map (fun _ => d[q]!) else c[q]? := by
  unfold Sort.putCells
  rw [Array.getElem?_mapIdx]
  by_cases h : q < d.size
  · rw [if_pos h]
    cases c[q]? with
    | none => rfl
    | some y => simp [h]
  · rw [if_neg h]
    cases c[q]? with
    | none => rfl
    | some y => simp [h]
def fnLess : Value := .func (.func 94) #[] #[]
/-- Cell q of the rows. -/
def celX (xs : List DFact) (q : Nat) : Value := (encF (nth xs (q / 3)))[q % 3]!
theorem celF_at {xs : List DFact} {i j : Nat} (hj : j < 3) : celX xs (i * 3 + j) = (encF (nth xs i))[j]! := by
  unfold celX; rw [show (i * 3 + j) / 3 = i by omega, show (i * 3 + j) % 3 = j by omega]
theorem bang_nth (d : Array DFact) (i : Nat) : d[i]! = nth d.toList i := by
  unfold nth
  rw [List.getD_eq_getElem?_getD, Array.getElem?_toList, getElem!_def]
  cases d[i]? <;> rfl
theorem flat_cel (d : Array DFact) {q : Nat} (hq : q < d.size * 3) : (Sort.flatK encF 3 d)[q]! = celX d.toList q := by
  rw [Sort.get_flatK _ _ _ _ hq, bang_nth]; rfl
theorem SortFunc_facts (xs ys : List DFact) (hr : ∀ x ∈ xs, 0 ≤ x.Id ∧ x.Id ≤ 1000000) (hl : xs.length ≤ 1048576 * 64) (hys : ∀ zs : List DFact, zs.Perm xs → zs.Pairwise (fun x y => x.Id ≤ y.Id) → zs = ys) :
    CallsM Tryz.prog 93 false [.mut none (rDFactS .own xs), .val none [.v fnLess]] [.mut none (rDFactS .own ys), .val none [.v fnLess]] (.tup []) [] := by
  refine ⟨⟨_, Tryz.func93, by kernel_rfl, by kernel_rfl⟩, fun w S V vs hS hV hVV hA => ?_⟩
  match vs, hA with
  | [v, v2], ⟨hA, hA2, _⟩ =>
    have hv2 : v2 = fnLess := by
      obtain ⟨-, u, rfl, hrow⟩ := (show ValOk w S NO none [C.v fnLess] v2 from hA2)
      obtain ⟨f, h1, -, -⟩ := hrow
      have := h1 0 _ rfl
      have hz : u 0 = fnLess := by
        generalize u 0 = z at this
        cases this
        rfl
      exact hz
    subst hv2
    have hrep := ValOk.rep1 (show ValOk w S (V 0) none [C.s .own (xs.map (DFact.enc .own))] v from hA)
    generalize hcc : C.s .own (xs.map (DFact.enc .own)) = cc at hrep
    cases hrep with
    | nil _ o a ho =>
      cases hcc0 : xs with
      | cons x xs' => rw [hcc0] at hcc; cases hcc
      | nil =>
        have hy0 : ys = [] := (hys [] (by rw [hcc0]) List.Pairwise.nil).symm
        refine (AnyF.slices_SortFunc_none Tryz.sortFact a 0 fnLess w).mono fun e w' ⟨he, hw'⟩ => ?_
        subst hw'
        refine ⟨.tuple #[], he, Keeps.refl _ _, NO, fun _ => NO, NO, fun _ _ h => h.elim, fun _ _ _ h => h.elim, fun _ _ h => h.elim, fun _ _ _ _ _ h => h.elim, fun _ _ _ h => h.elim, fun _ _ h => h.elim, fun _ _ _ h => h.elim, ⟨#[], rfl, trivial, rfl⟩, Row.nil _ _ _ _, ⟨⟨rfl, fun _ => .slice a 0 0, rfl, row1 (by rw [hy0]; exact .nil _ .own _ trivial)⟩, trivial, trivial⟩⟩
    | own _ o g k n cap rows u f ho hn hk hcap hpos hF hu hf hd hc =>
      cases hcc
      have hnx : n = xs.length := by rw [← hn, List.length_map]
      have hx0 : 0 < xs.length := by omega
      have hk3 : k = 3 := by
        have := hk (DFact.enc .own xs[0]) (List.mem_map.2 ⟨_, List.getElem_mem hx0, rfl⟩)
        exact this.symm
      subst hk3 hnx
      have hval : ∀ q, q < xs.length * 3 → cel w g q = some (celX xs q) := fun q hq => by
        have h1 := hu q hq
        have hi : q / 3 < xs.length := by omega
        have hrow : (xs.map (DFact.enc .own))[q / 3]? = some (DFact.enc .own (nth xs (q / 3))) := by rw [List.getElem?_map, get_nth hi]; rfl
        have hid := clp_in (hr _ (nth_mem hi))
        have h3 : q % 3 = 0 ∨ q % 3 = 1 ∨ q % 3 = 2 := by omega
        have hqe : q / 3 * 3 + q % 3 = q := by omega
        unfold celX encF
        rw [h1, hid]
        rcases h3 with e | e | e
        · have h2 := hc (q / 3) 0 _ (I (nth xs (q / 3)).Id) hrow rfl
          rw [e]
          rw [e] at hqe
          rw [hqe] at h2
          generalize u q = z at h2
          cases h2
          rfl
        · have h2 := hc (q / 3) 1 _ (I (nth xs (q / 3)).Size) hrow rfl
          rw [e]
          rw [e] at hqe
          rw [hqe] at h2
          generalize u q = z at h2
          cases h2
          rfl
        · have h2 := hc (q / 3) 2 _ (I (nth xs (q / 3)).Sum) hrow rfl
          rw [e]
          rw [e] at hqe
          rw [hqe] at h2
          generalize u q = z at h2
          cases h2
          rfl
      have hgs : g < w.heap.size := (hV 0 g 0 (hF 0 (by omega)).1).1
      obtain ⟨c, e0, fr, hg, -⟩ := Sort.cells_of_cell? (hval 0 (by omega))
      have hH : Sort.HoldsK encF 3 w g 0 xs.toArray := fun q hq => by
        have hq' : q < xs.length * 3 := by simpa using hq
        refine ⟨?_, ?_⟩
        · rw [flat_cel _ (by simpa using hq'), Nat.zero_add]; exact hval q hq'
        · rw [Nat.zero_add]; exact congrArg Prod.fst (hF q (Nat.lt_of_lt_of_le hq' (Nat.mul_le_mul_right 3 hcap))).2.2
      have hcon := AnyQ.slices_SortFunc Tryz.sortFact 3 Tryz.isAgg168 Tryz.sizeOf168 encF (fun _ => rfl) (fun x v hv => by simp [encF] at hv; rcases hv with rfl | rfl | rfl <;> rfl) cfF swoF 94 #[] g 0 cap xs.toArray w (enters_of Tryz.func94 (by kernel_rfl) rfl) (fun _ _ _ _ x y => less_run x y _) hH hgs (by simp; omega)
      rw [show xs.toArray.size = xs.length from by simp] at hcon
      refine Calls.mono (show Calls Tryz.prog 93 #[.slice (some ⟨g, 0, none⟩) xs.length cap, fnLess] w _ from hcon) fun e w' ⟨he, d', m, os, hp, hsd, hw'⟩ => ?_
      obtain ⟨q1, q2, q3, q4, q5, q6⟩ := sort_worldV hg (show w' = Sort.grow (Sort.putRow id (Sort.ahead w m) g 0 (Sort.flatK encF 3 d')) os from hw')
      obtain ⟨p1, -, p3⟩ := hp
      have hsz : d'.size = xs.length := by simpa using p1
      have hzl : d'.toList.length = xs.length := by simpa using hsz
      have hperm : d'.toList.Perm xs := by
        have h1 : (d'.extract 0 xs.length).toList = d'.toList := by rw [← hsz]; simp
        have h2 : (xs.toArray.extract 0 xs.length).toList = xs := by simp
        rwa [h1, h2] at p3
      have hry : ∀ y ∈ d'.toList, 0 ≤ y.Id ∧ y.Id ≤ 1000000 := fun y hy => hr y (hperm.mem_iff.1 hy)
      have hpair : d'.toList.Pairwise fun x y => x.Id ≤ y.Id := by
        rw [List.pairwise_iff_getElem]
        intro i j hi hj hij
        have h1 := hsd i j (Nat.zero_le _) hij (by omega)
        rw [bang_nth, bang_nth, nth_of (List.getElem?_eq_getElem hi), nth_of (List.getElem?_eq_getElem hj), ltF, clp_in (hry _ (List.getElem_mem hi)), clp_in (hry _ (List.getElem_mem hj))] at h1
        have := of_decide_eq_false h1
        omega
      have hzy := hys _ hperm hpair
      generalize hzz : d'.toList = zs at hzl hperm hry hpair hzy
      subst hzy
      have hcel : ∀ q, cel w g q = c[q]? := fun q => by show World.cell? w _ = _; unfold World.cell?; simp [hg]
      have hcel' : ∀ q, cel w' g q = if q < xs.length * 3 then (c[q]?).map (fun _ => celX zs q) else c[q]? := fun q => by
        have h1 := put_getV (Sort.flatK encF 3 d') c q
        have h2 : (Sort.flatK encF 3 d').size = xs.length * 3 := by rw [Sort.size_flatK, hsz]
        rw [h2] at h1
        have h3 : cel w' g q = (Sort.putCells id 0 (Sort.flatK encF 3 d') c)[q]? := by show World.cell? w' _ = _; unfold World.cell?; simp [q6]
        rw [h3, h1]
        by_cases hq : q < xs.length * 3
        · rw [if_pos hq, if_pos hq, flat_cel _ (by omega), hzz]
        · rw [if_neg hq, if_neg hq]
      have hval' : ∀ q, q < xs.length * 3 → cel w' g q = some (celX zs q) := fun q hq => by
        have h1 := hval q hq
        rw [hcel] at h1
        rw [hcel', if_pos hq, h1, Option.map_some]
      have hfro : ∀ q, fro w' g q = fro w g q := fun q => by
        refine Prod.ext ?_ ?_
        · show World.frozen? w' _ = World.frozen? w _
          unfold World.frozen?; simp [q6, hg]
        · show mp w' g = mp w g
          unfold mp; rw [q6, hg]
      have hother : ∀ b, b < w.heap.size → b ≠ g → ∀ o, cel w' b o = cel w b o ∧ fro w' b o = fro w b o := fun b hb hne o => by
        have hb' := q5 b hb hne
        refine ⟨?_, Prod.ext ?_ ?_⟩
        · show World.cell? w' _ = World.cell? w _
          unfold World.cell?; simp only [hb']
        · show World.frozen? w' _ = World.frozen? w _
          unfold World.frozen?; simp only [hb']
        · show mp w' b = mp w b
          unfold mp; rw [hb']
      have hcap3 : ∀ q, q < xs.length * 3 → q < cap * 3 := fun q hq => Nat.lt_of_lt_of_le hq (Nat.mul_le_mul_right 3 hcap)
      have hkeep : Keeps (fun b o => ∃ i, V i b o) w w' := by
        refine ⟨q1, q2, q3, q4, fun b hb hn => q5 b hb fun e => ?_, fun b o hb hn => ?_, fun b o hb hn => ?_⟩
        · subst e; exact hn 0 ⟨0, (hF 0 (by omega)).1⟩
        · by_cases e : b = g
          · subst e
            have ho : ¬ o < xs.length * 3 := fun h => hn ⟨0, (hF o (hcap3 o h)).1⟩
            rw [hcel', if_neg ho, hcel]
          · exact (hother b hb e o).1
        · by_cases e : b = g
          · subst e; exact hfro o
          · exact (hother b hb e o).2
      refine ⟨.tuple #[], he, hkeep, NO, atZ (V 0), NO, fun _ _ h => h.elim, fun i b o h => ?_, fun _ _ h => h.elim, fun i i' hne b o h h' => ?_, fun _ _ _ h => h.elim, fun _ _ h => h.elim, fun _ _ _ _ h => h.elim, ⟨#[], rfl, trivial, rfl⟩, Row.nil _ _ _ _, ⟨⟨rfl, fun _ => .slice (some ⟨g, 0, none⟩) xs.length cap, rfl, row1 ?_⟩, trivial, trivial⟩⟩
      · cases i with
        | zero => exact .inl ⟨0, h⟩
        | succ i => exact h.elim
      · cases i with
        | zero =>
          cases i' with
          | zero => exact hne rfl
          | succ i' => exact h'.elim
        | succ i => exact h.elim
      · show Rep w' _ (V 0) _ _
        refine .own _ .own g 3 xs.length cap _ (fun q => (cel w' g q).getD undef) (fun _ => NO) trivial (by rw [List.length_map, hzl]) (fun r hr => by obtain ⟨z, -, rfl⟩ := List.mem_map.1 hr; rfl) hcap hpos (fun q hq => ?_) (fun q hq => ?_) (fun _ _ _ _ h => h.elim) (fun _ _ _ _ _ _ _ h => h.elim) (fun i j r c2 hi hj => ?_)
        · obtain ⟨a1, ⟨z, a2, a3⟩, a4⟩ := hF q hq
          refine ⟨a1, ?_, (hfro q).trans a4⟩
          by_cases hqx : q < xs.length * 3
          · refine ⟨_, hval' q hqx, ?_⟩
            have h3 : q % 3 = 0 ∨ q % 3 = 1 ∨ q % 3 = 2 := by omega
            unfold celX encF
            rcases h3 with e | e | e <;> rw [e] <;> rfl
          · rw [hcel', if_neg hqx, ← hcel]; exact ⟨z, a2, a3⟩
        · rw [hval' q hq]; rfl
        · rw [List.getElem?_map] at hi
          have hil : i < zs.length := by
            rcases Nat.lt_or_ge i zs.length with h | h
            · exact h
            · rw [List.getElem?_eq_none h] at hi; cases hi
          rw [get_nth hil] at hi
          simp only [Option.map_some, Option.some.injEq] at hi
          subst hi
          have hid := clp_in (hry _ (nth_mem hil))
          match j, hj with
          | 0, hj =>
            simp only [DFact.enc, List.getElem?_cons_zero, Option.some.injEq] at hj
            subst hj
            simp only [hval' (i * 3 + 0) (by omega), Option.getD_some, celF_at (show 0 < 3 by omega), encF, hid]
            exact .v _ _ rfl
          | 1, hj =>
            simp only [DFact.enc, List.getElem?_cons_succ, List.getElem?_cons_zero, Option.some.injEq] at hj
            subst hj
            simp only [hval' (i * 3 + 1) (by omega), Option.getD_some, celF_at (show 1 < 3 by omega), encF]
            exact .v _ _ rfl
          | 2, hj =>
            simp only [DFact.enc, List.getElem?_cons_succ, List.getElem?_cons_zero, Option.some.injEq] at hj
            subst hj
            simp only [hval' (i * 3 + 2) (by omega), Option.getD_some, celF_at (show 2 < 3 by omega), encF]
            exact .v _ _ rfl
          | j + 3, hj => simp [DFact.enc] at hj
    | _ => cases hcc
end Go.Proofs.YtjgjnlppphejpaaGreat.Ab
/- Contracts of the laws' generic functions at rows of facts. Printed by gen_con.py. No condition. -/
namespace Go.Proofs.YtjgjnlppphejpaaGreat.Ab
open Go.RowKit
set_option maxRecDepth 20000
set_option maxHeartbeats 2000000

theorem eqFact_ok (a b : DFact) (hs : DFact.sml a) : CallsA Tryz.prog 95 false [.val (some 3) (DFact.enc .imm a), .val (some 3) (DFact.enc .imm b)] .one [B (decide (a = b))] := by
  refine fnOk (n := 20) (mo := []) (tb := []) Tryz.func95 (by kernel_rfl) rfl (by kernel_rfl) (by rfl) (.inr ⟨trivial, trivial⟩) ?_
  repeat' ((conv => whnf); first | with_reducible (first | refine Ln.mk (List.length_map ..) ?_ | refine Wr.mk (wrapI (by omega) (by omega)) ?_ | refine Bf.N (fun h => ?_) (fun h => ?_) | refine Bf.NB (fun h => ?_) (fun h => ?_) | refine Bf.D (fun h => ?_) (fun h => ?_) | refine Bf.not ?_ | refine Fin_.mk rfl ?_) | refine Bf.t rfl ?_ | refine Bf.f rfl ?_)
  all_goals first | (show [B false] = [B (decide (a = b))]; refine congrArg (fun z => [B z]) (decide_eq_false fun e => ?_).symm; subst e; contradiction) | (show [B true] = [B (decide (a = b))]; refine congrArg (fun z => [B z]) (decide_eq_true ?_).symm; cases a; cases b; simp_all)
theorem eqFactS_ok (a b : List DFact) (hs : smlDFactS a) : CallsA Tryz.prog 25 false [.val none (rDFactS .imm a), .val none (rDFactS .imm b)] .one [B (decide (a = b))] := by
  refine fnOk (n := 27) (mo := []) (tb := [(6, 10, [17, 18, 19, 20, 21, 22, 23, 24, 25, 26])]) Tryz.func25 (by kernel_rfl) rfl (by kernel_rfl) (by rfl) (.inr ⟨trivial, trivial⟩) ?_
  have hl : a.length ≤ 1048576 := hs.1
  repeat' ((conv => whnf); first | with_reducible (first | refine Ln.mk (List.length_map ..) ?_ | refine Wr.mk (wrapI (by omega) (by omega)) ?_ | refine Bf.N (fun h => ?_) (fun h => ?_) | refine Bf.not ?_ | refine Fin_.mk rfl ?_) | refine Bf.t rfl ?_ | refine Bf.f rfl ?_)
  · refine congrArg (fun z => [B z]) (decide_eq_false fun e => ?_).symm
    subst e
    omega
  have hlab : a.length = b.length := by omega
  (conv => whnf)
  refine Lp.mk (ι := Nat) (fun i => [(0, .hold .one (rDFactS .imm a)), (1, .hold .one (rDFactS .imm b)), (5, .hold .one [I (i : Nat)])]) (fun i => i ≤ a.length ∧ ∀ j, j < i → a[j]? = b[j]?) (fun i => a.length - i) 0 ?_ ⟨Nat.zero_le _, fun j hj => by omega⟩ fun i hi => ?_
  · repeat' (first | exact trivial | rfl | refine And.intro ?_ ?_)
  · obtain ⟨hi, hall⟩ := hi
    by_cases hlt : i < a.length
    · obtain ⟨x, hx⟩ : ∃ x, a[i]? = some x := ⟨_, List.getElem?_eq_getElem hlt⟩
      obtain ⟨y, hy⟩ : ∃ y, b[i]? = some y := ⟨_, List.getElem?_eq_getElem (by omega)⟩
      repeat' ((conv => whnf); first | with_reducible (first | refine Ln.mk (List.length_map ..) ?_ | refine Wr.mk (wrapI (by omega) (by omega)) ?_ | refine Ix.nat (get_map hx) ?_ | refine Ix.nat (get_map hy) ?_ | refine Bf.D (fun h => ?_) (fun h => absurd h (by omega)) | refine Bf.N (fun h => ?_) (fun h => ?_) | refine Bf.NB (fun h => ?_) (fun h => ?_) | refine Bf.D (fun h => ?_) (fun h => ?_) | refine Bf.not ?_ | refine Fin_.mk rfl ?_) | refine Bf.t rfl ?_ | refine Bf.f rfl ?_ | refine Cl.mk (eqFact_ok x y trivial) ?_)
      all_goals first
        | (show [B false] = [B (decide (a = b))]
           refine congrArg (fun z => [B z]) (decide_eq_false fun e => ?_).symm
           subst e
           simp_all)
        | ((conv => whnf)
           refine Nx.mk (i + 1) ⟨by omega, fun j hj => ?_⟩ (by omega) ?_
           · rcases Nat.lt_or_ge j i with h1 | h1
             · exact hall j h1
             · obtain rfl : j = i := by omega
               rw [hx, hy]
               simp_all
           · repeat' (first | exact trivial | rfl | refine And.intro ?_ ?_))
    · repeat' ((conv => whnf); first | with_reducible (first | refine Ln.mk (List.length_map ..) ?_ | refine Wr.mk (wrapI (by omega) (by omega)) ?_ | refine Bf.D (fun h => absurd h (by omega)) (fun h => ?_) | refine Bf.not ?_ | refine Fin_.mk rfl ?_) | refine Bf.t rfl ?_ | refine Bf.f rfl ?_)
      refine congrArg (fun z => [B z]) (decide_eq_true ?_).symm
      refine List.ext_getElem? fun j => ?_
      rcases Nat.lt_or_ge j i with h1 | h1
      · exact hall j h1
      · rw [List.getElem?_eq_none (by omega), List.getElem?_eq_none (by omega)]
theorem markFactS_ok (x : List DFact) (k : Int) (hs : smlDFactS x) (h0 : 0 ≤ k) (h1 : k + (cntDFactS x : Nat) ≤ 1099511627776) : CallsM Tryz.prog 26 false [.mut none (rDFactS .own x), .val none [I k]] [.mut none (rDFactS .own (markDFactS x k)), .val none []] .one [I (k + (cntDFactS x : Nat))] := by
  have hl : x.length ≤ 1048576 := hs.1
  have hml : ((markDFactS x k).map (DFact.enc .own)).length = (x.map (DFact.enc .own)).length := by simp [markDFactS_len]
  refine fnMOk (n := 34) (mo := []) (tb := []) [(0, 0), (0, 0)] Tryz.func26 (by kernel_rfl) rfl (by kernel_rfl) (by rfl) (by rfl) (.inr ⟨trivial, trivial⟩) fun u p => ?_
  repeat' ((conv => whnf); first | with_reducible (first | refine Ln.mk (List.length_map ..) ?_ | refine Wr.mk (wrapI (by omega) (by omega)) ?_ | refine Bf.not ?_ | refine Fin_.mk rfl ?_) | refine Bf.t rfl ?_ | refine Bf.f rfl ?_)
  (conv => whnf)
  refine Lp.mk (ι := Nat) (fun i => [(0, .hold .one [.s (.tag (u 0 0)) (mixR ((markDFactS x k).map (DFact.enc .own)) (x.map (DFact.enc .own)) i)]), (1, .hold .one [I (k + (preDFactS x i : Nat))]), (5, .hold .one [I (i : Nat)])]) (fun i => i ≤ x.length) (fun i => x.length - i) 0 ?_ (Nat.zero_le _) fun i hi => ?_
  · rw [mix_zero, preDFactS_zero]
    repeat' (first | exact trivial | rfl | exact And.intro rfl (And.intro (congrArg I (by omega)) trivial) | refine And.intro ?_ ?_)
  · have hlen := (mix_len hml i).trans (show (x.map (DFact.enc .own)).length = x.length by simp)
    by_cases hlt : i < x.length
    · obtain ⟨y, hy⟩ : ∃ y, x[i]? = some y := ⟨_, List.getElem?_eq_getElem hlt⟩
      have hr := mix_get hml i (by simp; omega)
      rw [get_map hy] at hr
      have hm := markDFactS_get x k i y hy
      have hps := preDFactS_succ x i y hy
      have hpl := preDFactS_le x (i + 1)
      rw [hps] at hpl
      simp only [DFact.cnt] at hps hpl
      repeat' ((conv => whnf); first | with_reducible (first | refine Ln.mk (List.length_map ..) ?_ | refine Wr.mk (wrapI (by omega) (by omega)) ?_ | refine Bf.D (fun h => ?_) (fun h => absurd h (by omega)) | refine Ln.mk hlen ?_ | refine Ix.nat hr ?_ | refine Bf.not ?_ | refine Fin_.mk rfl ?_) | refine Bf.t rfl ?_ | refine Bf.f rfl ?_ | refine Pu.one rfl rfl hr rfl (Nat.le_of_ble_eq_true rfl) rfl ?_ | refine Pu.one rfl rfl (set_get hr) rfl (Nat.le_of_ble_eq_true rfl) rfl ?_ | refine Pu.one rfl rfl (set_get (set_get hr)) rfl (Nat.le_of_ble_eq_true rfl) rfl ?_ | refine Ix.nat (set_get hr) ?_ | refine Ix.nat (set_get (set_get hr)) ?_ | refine Nx.mk (i + 1) (by omega) (by omega) ?_)
      repeat' (first | exact trivial | rfl | exact And.intro rfl (And.intro (congrArg (C.s _) (by first | exact mix_set hml (get_map hm) | (simp only [List.set_set]; exact mix_set hml (get_map hm)))) trivial) | exact And.intro rfl (And.intro (congrArg I (by first | omega | (simp only [DFact.cnt] at hps; omega))) trivial) | refine And.intro ?_ ?_)
    · repeat' ((conv => whnf); first | with_reducible (first | refine Ln.mk (List.length_map ..) ?_ | refine Wr.mk (wrapI (by omega) (by omega)) ?_ | refine Bf.D (fun h => absurd h (by omega)) (fun h => ?_) | refine Ln.mk hlen ?_ | refine Bf.not ?_ | refine Fin_.mk rfl ?_) | refine Bf.t rfl ?_ | refine Bf.f rfl ?_ | refine FinM.mk rfl ?_ ?_)
      · have he : i = x.length := by omega
        subst he
        exact congrArg (fun z => [I z]) (by rw [preDFactS_all])
      · rw [mix_end _ hml (by simp; omega)]
        repeat' (first | exact trivial | exact rfl | refine And.intro ?_ ?_)
theorem heldFactS_ok (x : List DFact) (k : Int) (hs : smlDFactS x) (h0 : 0 ≤ k) (h1 : k + (cntDFactS x : Nat) ≤ 1099511627776) : CallsA Tryz.prog 27 false [.val none (rDFactS .imm (markDFactS x k)), .val none [I k]] .one [I (k + (cntDFactS x : Nat))] := by
  have hl : x.length ≤ 1048576 := hs.1
  have hln := markDFactS_len x k
  refine fnOk (n := 40) (mo := []) (tb := []) Tryz.func27 (by kernel_rfl) rfl (by kernel_rfl) (by rfl) (.inr ⟨trivial, trivial⟩) ?_
  repeat' ((conv => whnf); first | with_reducible (first | refine Ln.mk (List.length_map ..) ?_ | refine Wr.mk (wrapI (by omega) (by omega)) ?_ | refine Bf.not ?_ | refine Fin_.mk rfl ?_) | refine Bf.t rfl ?_ | refine Bf.f rfl ?_)
  (conv => whnf)
  refine Lp.mk (ι := Nat) (fun i => [(0, .hold .one (rDFactS .imm (markDFactS x k))), (1, .hold .one [I (k + (preDFactS x i : Nat))]), (5, .hold .one [I (i : Nat)])]) (fun i => i ≤ x.length) (fun i => x.length - i) 0 ?_ (Nat.zero_le _) fun i hi => ?_
  · rw [preDFactS_zero]
    repeat' (first | exact trivial | rfl | exact And.intro rfl (And.intro (congrArg I (by omega)) trivial) | refine And.intro ?_ ?_)
  · by_cases hlt : i < x.length
    · obtain ⟨y, hy⟩ : ∃ y, x[i]? = some y := ⟨_, List.getElem?_eq_getElem hlt⟩
      have hm := markDFactS_get x k i y hy
      have hps := preDFactS_succ x i y hy
      have hpl := preDFactS_le x (i + 1)
      rw [hps] at hpl
      simp only [DFact.cnt] at hps hpl
      repeat' ((conv => whnf); first | with_reducible (first | refine Ln.mk (List.length_map ..) ?_ | refine Wr.mk (wrapI (by omega) (by omega)) ?_ | refine Bf.D (fun h => ?_) (fun h => absurd h (by omega)) | refine Ix.nat (get_map hm) ?_ | refine Bf.D (fun h => absurd h (by omega)) (fun h => ?_) | refine Bf.N (fun h => absurd h (by omega)) (fun h => ?_) | refine Bf.not ?_ | refine Fin_.mk rfl ?_) | refine Bf.t rfl ?_ | refine Bf.f rfl ?_ | refine Bf.N (fun h => absurd rfl h) (fun h => ?_) | refine Nx.mk (i + 1) (by omega) (by omega) ?_)
      repeat' (first | exact trivial | rfl | exact And.intro rfl (And.intro (congrArg I (by first | omega | (simp only [DFact.cnt] at hps; omega))) trivial) | refine And.intro ?_ ?_)
    · repeat' ((conv => whnf); first | with_reducible (first | refine Ln.mk (List.length_map ..) ?_ | refine Wr.mk (wrapI (by omega) (by omega)) ?_ | refine Bf.D (fun h => absurd h (by omega)) (fun h => ?_) | refine Bf.N (fun h => absurd h (by omega)) (fun h => ?_) | refine Bf.not ?_ | refine Fin_.mk rfl ?_) | refine Bf.t rfl ?_ | refine Bf.f rfl ?_)
      have he : i = x.length := by omega
      subst he
      exact congrArg (fun z => [I z]) (by rw [preDFactS_all])
end Go.Proofs.YtjgjnlppphejpaaGreat.Ab
