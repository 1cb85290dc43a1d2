/- FnActs: the walk: for every list of bytes the law returns true. -/
import Derived.Test.YtebiefhfhjgmaaaDoorDrawB
import Derived.Test.YtebiefhfhjgmaaaDoorJReadI
import Derived.Test.YtebiefhfhjgmaaaDoorNames
import Derived.Test.YtebiefhfhjgmaaaDoorSpan
namespace Go.Proofs.YtebiefhfhjgmaaaDoor.Aw
set_option maxRecDepth 100000
open Go.RowKit Mm Ac AcM AcW Fp Tb Ja Jr Rd Dr

theorem box_cells {w : World} {g : Nat} {z : List Int} (h : Blk w g 44 #[I (gI z 0), I (gI z 1), I (gI z 2), I (gI z 3), I (gI z 4)]) : w.cell? ⟨g, 0, none⟩ = some (I (gI z 0)) ∧ w.cell? ⟨g, 1, none⟩ = some (I (gI z 1)) ∧ w.cell? ⟨g, 2, none⟩ = some (I (gI z 2)) ∧ w.cell? ⟨g, 3, none⟩ = some (I (gI z 3)) ∧ w.cell? ⟨g, 4, none⟩ = some (I (gI z 4)) :=
  ⟨h.cell 0, h.cell 1, h.cell 2, h.cell 3, h.cell 4⟩
/-- The text of an act. -/
def TRet (t : ByteArray) (w : World) (e : Ending) (w' : World) : Prop := e = .returned (.tuple #[.string t, .bool true]) ∧ Below w.heap.size w w'
theorem fmt_yes {z : List Int} {k : Nat} (h : Okz z k) (w : World) (ht : Tab w) : Calls Tryd.prog 28 #[Agg z] w (TRet (text k z) w) :=
  (FaI.impl_any z w ht).mono fun e w' hr => by
    obtain ⟨t, b, he, hf, hb⟩ := ft_of hr
    obtain ⟨rfl, rfl⟩ := ft_fun hf (.inl ⟨k, h, rfl, rfl⟩)
    exact ⟨he, hb⟩
def PRet (z : List Int) (w : World) (e : Ending) (w' : World) : Prop := e = .returned (.tuple #[Agg z, .bool true]) ∧ Below w.heap.size w w'
theorem parse_yes {s : ByteArray} {z : List Int} (h : IsAct s z) (w : World) (hs : s.size ≤ maxLen) : Calls Tryd.prog 41 #[.string s] w (PRet z w) :=
  (PaI.impl_any s w hs).mono fun e w' ⟨hr, hb⟩ => by
    rcases hr with ⟨z', hz, he⟩ | ⟨hn, _⟩
    · obtain rfl := PaS.isAct_fun h hz
      exact ⟨he, hb⟩
    · exact absurd h (hn z)
theorem jadd_yes {z : List Int} {k : Nat} (h : Okz z k) (x : ByteArray) (w : World) (ht : Tab w) (hx : x.size + (mk (text k z)).size ≤ 8000) : Calls Tryd.prog 30 #[.string x, Agg z] w (TRet (x ++ mk (text k z)) w) :=
  (Ja.impl_any x z w (by omega) ht).mono fun e w' ⟨⟨t, b, hf, he⟩, hb⟩ => by
    obtain ⟨rfl, rfl⟩ := ft_fun hf (.inl ⟨k, h, rfl, rfl⟩)
    have e1 : jb x (text k z) true = true := by unfold jb; rw [decide_eq_true hx]; rfl
    rw [he]
    unfold jt
    rw [e1]
    exact ⟨rfl, hb⟩
/-- The acts m and the place b were read. -/
def RetMB (m : List (List Int)) (b : Nat) (w : World) (e : Ending) (w' : World) : Prop :=
  ∃ A c, e = .returned (.tuple #[.slice A m.length c, I ((b : Nat) : Int)]) ∧ w'.ownsRow w.heap.size 44 5 (.slice A m.length c) m.length ((rows m).map I) ∧ Below w.heap.size w w'
theorem read_yes {s : ByteArray} {m : List (List Int)} {b : Nat} (hj : JOf s m b) (w : World) (hs : s.size ≤ 1048576) (ht : Tb.Tab w) (hv : MaxV w) :
    Calls Tryd.prog 42 #[.string s] w (RetMB m b w) :=
  (Jr.impl_any s w hs ht hv).mono fun e w' ⟨m', b', A, c, hj', he, ho, hb⟩ => by
    obtain ⟨rfl, rfl⟩ := jof_fun hj hj'
    exact ⟨A, c, he, ho, hb⟩
theorem row_one {w : World} {base c : Nat} {A : Option Addr} {z : List Int} (h : w.ownsRow base 44 5 (.slice A 1 c) 1 ((rows [z]).map I)) : ∃ g, A = some ⟨g, 0, none⟩ ∧ g < w.heap.size ∧ w.cell? ⟨g, 0, none⟩ = some (I (gI z 0)) ∧ w.cell? ⟨g, 1, none⟩ = some (I (gI z 1)) ∧ w.cell? ⟨g, 2, none⟩ = some (I (gI z 2)) ∧ w.cell? ⟨g, 3, none⟩ = some (I (gI z 3)) ∧ w.cell? ⟨g, 4, none⟩ = some (I (gI z 4)) := by
  rcases h.2 with ⟨_, h0⟩ | ⟨g, cap, cur, hv, _, hh, _⟩
  · omega
  · injection hv with hA _ _
    subst hA
    have hc : ∀ i v, ((rows [z]).map I)[i]? = some v → w.cell? ⟨g, i, none⟩ = some v := fun i v hi => by
      have := h.cells (g := g) rfl i v hi
      have hadd : (⟨g, 0, none⟩ : Addr).add i = ⟨g, i, none⟩ := by unfold Addr.add; split <;> simp_all
      rwa [hadd] at this
    exact ⟨g, rfl, (Array.getElem?_eq_some_iff.1 hh).1, hc 0 _ rfl, hc 1 _ rfl, hc 2 _ rfl, hc 3 _ rfl, hc 4 _ rfl⟩
theorem sum_yes (w : World) : Calls Tryd.prog 43 #[.string ⟨#[109, 101, 115, 104]⟩] w fun e w' => e = .returned (.int .i64 6994) ∧ w = w' :=
  (Sm.impl_any _ w (by unfold maxLen; decide)).mono fun e w' ⟨he, hw⟩ => ⟨by rw [he, sum_mesh], by first | exact hw | exact hw.symm⟩
theorem jadd_nil_yes {z : List Int} {k : Nat} (h : Okz z k) (w : World) (ht : Tab w) : Calls Tryd.prog 30 #[.string ⟨#[]⟩, Agg z] w (TRet (mk (text k z)) w) := by
  have h1 := mk_size (text k z)
  have h2 : (text k z).size ≤ 100 := strP_size k z _ (by rw [List.take_of_length_le (Nat.le_refl _)]; exact h.2.2.2.1)
  have h3 : (⟨#[]⟩ : ByteArray).size = 0 := rfl
  have e2 : (⟨#[]⟩ : ByteArray) ++ mk (text k z) = mk (text k z) := by apply ByteArray.ext; simp [ByteArray.data_append]
  have := jadd_yes h ⟨#[]⟩ w ht (by omega)
  rwa [e2] at this
def RetOne (z : List Int) (b : Nat) (w : World) (e : Ending) (w' : World) : Prop :=
  ∃ g c, e = .returned (.tuple #[.slice (some ⟨g, 0, none⟩) 1 c, I ((b : Nat) : Int)]) ∧ g < w'.heap.size ∧ w'.cell? ⟨g, 0, none⟩ = some (I (gI z 0)) ∧ w'.cell? ⟨g, 1, none⟩ = some (I (gI z 1)) ∧ w'.cell? ⟨g, 2, none⟩ = some (I (gI z 2)) ∧ w'.cell? ⟨g, 3, none⟩ = some (I (gI z 3)) ∧ w'.cell? ⟨g, 4, none⟩ = some (I (gI z 4)) ∧ Below w.heap.size w w'
theorem read_one {z : List Int} {k : Nat} (h : Okz z k) (hz : zn z = z) (w : World) (ht : Tab w) (hv : MaxV w) :
    Calls Tryd.prog 42 #[.string (mk (text k z))] w (RetOne z (mk (text k z)).size w) :=
  (read_yes (jof_one h hz) w (by have h1 := mk_size (text k z); have h2 : (text k z).size ≤ 100 := strP_size k z _ (by rw [List.take_of_length_le (Nat.le_refl _)]; exact h.2.2.2.1); omega) ht hv).mono fun e w' ⟨A, c, he, ho, hb⟩ => by
    obtain ⟨g, rfl, h0, h1, h2, h3, h4, h5⟩ := row_one ho
    exact ⟨g, c, he, h0, h1, h2, h3, h4, h5, hb⟩
set_option maxHeartbeats 4000000 in
theorem walk (A : Option Addr) (n c : Nat) (zs : List Int) (w : World) (hr : BRow w w.heap.size A n zs) (_ : n ≤ maxLen) (ht : Tab w) (hv : MaxV w) :
    Calls Tryd.prog 11 #[.slice A n c] w fun e w' => e = .returned (.bool true) ∧ Below w.heap.size w w' := by
  by_cases hbig : 1048576 < n
  · go_enter Tryd.func11, Tryd.ntmps11
    go_wp2_with fail
    refine (Cn.big_yes _ _ _ _ hbig).mono ?_
    rintro e w' ⟨rfl, rfl⟩
    go_wp2
    go_ret
    exact ⟨rfl, Below.refl _ _⟩
  have hn : n ≤ 1048576 := by omega
  clear hbig
  have Ht := Lib.hid ht
  have Hv := Lib.hid hv
  clear ht hv
  go_enter Tryd.func11, Tryd.ntmps11
  go_wp2_with fail
  refine (Cn.big_no _ _ _ _ hn).mono ?_
  rintro e w' ⟨rfl, rfl⟩
  go_wp2_with fail
  refine (drawAct_any A n c zs _ hr hn).mono ?_
  rintro e w1 ⟨z, k, hz, hzn, rfl, hb1⟩
  have Hz := Lib.hid hz
  have Hzn := Lib.hid hzn
  have Hb1 := Lib.hid hb1
  have hs1 := hb1.size
  have hts : (text k z).size ≤ 100 := strP_size k z _ (by rw [List.take_of_length_le (Nat.le_refl _)]; exact hz.2.2.2.1)
  have hms := mk_size (text k z)
  clear hz hzn hb1 hr
  go_wp2_with fail
  refine (fmt_yes Hz.out _ (tab_alloc (tab_below Ht.out Hb1.out) _)).mono ?_
  rintro e w2 ⟨rfl, hb2⟩
  have Hk2 := Lib.hid ((Blk.new w1 44 #[I (gI z 0), I (gI z 1), I (gI z 2), I (gI z 3), I (gI z 4)]).below hb2 (by simp))
  have Hb2 := Lib.hid ((Hb1.out.alloc hs1 _).trans (hb2.mono (by simp; omega)))
  have hl2 := Hk2.out.lt
  clear hb2 Hb1
  go_wp2_with fail
  refine (parse_yes (by have := isAct_text Hz.out; rwa [Hzn.out] at this) _ (by unfold maxLen; omega)).mono ?_
  rintro e w3 ⟨rfl, hb3⟩
  have Hk3 := Lib.hid (Hk2.out.below hb3 hl2)
  have Hb3 := Lib.hid (Hb2.out.trans (hb3.mono Hb2.out.size))
  have hl3 := Hk3.out.lt
  obtain ⟨c0, c1, c2, c3, c4⟩ := box_cells Hk3.out
  clear hb3 Hb2 Hk2
  go_wp2_with fail
  refine (jadd_nil_yes Hz.out _ (tab_alloc (tab_below Ht.out Hb3.out) _)).mono ?_
  rintro e w4 ⟨rfl, hb4⟩
  have Hk4 := Lib.hid ((Hk3.out.alloc (.cells #[I (gI z 0), I (gI z 1), I (gI z 2), I (gI z 3), I (gI z 4)] 44)).below hb4 (by simp; omega))
  have Hj4 := Lib.hid ((Blk.new w3 44 #[I (gI z 0), I (gI z 1), I (gI z 2), I (gI z 3), I (gI z 4)]).below hb4 (by simp))
  have Hb4 := Lib.hid ((Hb3.out.alloc Hb3.out.size _).trans (hb4.mono (by have := Hb3.out.size; simp; omega)))
  have hl4 := Hk4.out.lt
  have hm4 := Hj4.out.lt
  clear hb4 Hb3 Hk3 c0 c1 c2 c3 c4
  go_wp2_with fail
  refine (read_one Hz.out Hzn.out _ (tab_below Ht.out Hb4.out) (max_below Hv.out Hb4.out)).mono ?_
  rintro e w5 ⟨g, cr, rfl, hg, r0, r1, r2, r3, r4, hb5⟩
  have Hb5 := Lib.hid (Hb4.out.trans (hb5.mono Hb4.out.size))
  obtain ⟨c0, c1, c2, c3, c4⟩ := box_cells (Hk4.out.below hb5 hl4)
  obtain ⟨d0, d1, d2, d3, d4⟩ := box_cells (Hj4.out.below hb5 hm4)
  clear hb5 Hb4 Hk4 Hj4
  go_wp2_with fail
  go_quiet ((go_at_call 43; exact Calls.quiet_of_same (Bt.qs (sum_yes _))))
  go_wp2
  go_ret
  exact ⟨rfl, below_drewN Hb5.out _⟩
end Go.Proofs.YtebiefhfhjgmaaaDoor.Aw
