/- JournalAdd of both sides: what they hand back, for all arguments of bounded length. -/
import Derived.Test.YtebiefhfhjgmaaaDoorFmtS
import Derived.Test.YtebiefhfhjgmaaaDoorSum
namespace Go.Proofs.YtebiefhfhjgmaaaDoor.Ja
set_option maxRecDepth 100000
open Go.RowKit Mm Ac AcM AcW Fp Tb

/-- What FormatAct hands back, as a text and a flag. -/
def FT (z : List Int) (t : ByteArray) (b : Bool) : Prop := (∃ k, Okz z k ∧ t = text k z ∧ b = true) ∨ ((∀ k, ¬ Okz z k) ∧ t = ⟨#[]⟩ ∧ b = false)
theorem ft_of {z : List Int} {w w' : World} {e : Ending} (h : FaI.FRet z w e w') : ∃ t b, e = .returned (.tuple #[.string t, .bool b]) ∧ FT z t b ∧ Below w.heap.size w w' := by
  obtain ⟨h1, h2⟩ := h
  rcases h1 with ⟨k, hk, rfl⟩ | ⟨hk, rfl⟩
  · exact ⟨_, _, rfl, .inl ⟨k, hk, rfl, rfl⟩, h2⟩
  · exact ⟨_, _, rfl, .inr ⟨hk, rfl, rfl⟩, h2⟩
theorem ft_fun {z : List Int} {t t' : ByteArray} {b b' : Bool} (h : FT z t b) (h' : FT z t' b') : t = t' ∧ b = b' := by
  rcases h with ⟨k, hk, rfl, rfl⟩ | ⟨hk, rfl, rfl⟩
  · rcases h' with ⟨k', hk', rfl, rfl⟩ | ⟨hk', rfl, rfl⟩
    · rw [okz_inj hk hk']; exact ⟨rfl, rfl⟩
    · exact absurd hk (hk' k)
  · rcases h' with ⟨k', hk', rfl, rfl⟩ | ⟨hk', rfl, rfl⟩
    · exact absurd hk' (hk k')
    · exact ⟨rfl, rfl⟩
theorem ft_size {z : List Int} {t : ByteArray} {b : Bool} (h : FT z t b) : t.size ≤ 100 := by
  rcases h with ⟨k, hk, rfl, rfl⟩ | ⟨hk, rfl, rfl⟩
  · exact strP_size k z _ (by rw [List.take_of_length_le (Nat.le_refl _)]; exact hk.2.2.2.1)
  · decide
/-- The record of a text. -/
def mk (t : ByteArray) : ByteArray := ((t ++ ⟨#[47]⟩) ++ ⟨(Lib.itoa (Sm.sumL t.data.toList)).toArray⟩) ++ ⟨#[59]⟩
theorem mk_size (t : ByteArray) : (mk t).size ≤ t.size + 30 := by
  have h1 := Sm.sumL_bd t.data.toList
  have h2 := Lib.itoa_length_le (Sm.sumL t.data.toList) (by omega) (by omega)
  have h3 : (⟨(Lib.itoa (Sm.sumL t.data.toList)).toArray⟩ : ByteArray).size = (Lib.itoa (Sm.sumL t.data.toList)).length := rfl
  have h4 : (⟨#[47]⟩ : ByteArray).size = 1 := rfl
  have h5 : (⟨#[59]⟩ : ByteArray).size = 1 := rfl
  unfold mk
  simp only [ByteArray.size_append, h3, h4, h5]
  omega
theorem spec_mk (x t : ByteArray) : (((x ++ t) ++ ⟨#[47]⟩) ++ ⟨(Lib.itoa (Sm.sumL t.data.toList)).toArray⟩) ++ ⟨#[59]⟩ = x ++ mk t := by
  unfold mk
  apply ByteArray.ext
  simp [ByteArray.data_append]
def jb (x t : ByteArray) (b : Bool) : Bool := b && decide (x.size + (mk t).size ≤ 8000)
def jt (x t : ByteArray) (b : Bool) : ByteArray := if jb x t b then x ++ mk t else x
def JRet (x : ByteArray) (z : List Int) (w : World) (e : Ending) (w' : World) : Prop := (∃ t b, FT z t b ∧ e = .returned (.tuple #[.string (jt x t b), .bool (jb x t b)])) ∧ Below w.heap.size w w'
theorem jret_no {x t : ByteArray} {z : List Int} {b : Bool} {w w' : World} (h : FT z t b) (hb : b = false ∨ ¬ x.size + (mk t).size ≤ 8000) (hw : Below w.heap.size w w') : JRet x z w (.returned (.tuple #[.string x, .bool false])) w' := by
  refine ⟨⟨t, b, h, ?_⟩, hw⟩
  have e : jb x t b = false := by
    unfold jb
    rcases hb with rfl | hb
    · rfl
    · rw [decide_eq_false hb, Bool.and_false]
  unfold jt
  rw [e]
  rfl
theorem jret_yes {x t y : ByteArray} {z : List Int} {w w' : World} (h : FT z t true) (hb : x.size + (mk t).size ≤ 8000) (hy : y = x ++ mk t) (hw : Below w.heap.size w w') : JRet x z w (.returned (.tuple #[.string y, .bool true])) w' := by
  refine ⟨⟨t, true, h, ?_⟩, hw⟩
  have e : jb x t true = true := by
    unfold jb
    rw [decide_eq_true hb]; rfl
  unfold jt
  rw [e, hy]
  rfl

set_option maxHeartbeats 600000 in
theorem record_any (t : ByteArray) (w : World) (hs : t.size ≤ 100) (ht : Tab w) :
    Calls Tryd.prog 64 #[.string t] w fun e w' => e = .returned (.string (mk t)) ∧ Below w.heap.size w w' := by
  have h1 := Sm.sumL_bd t.data.toList
  have h2 := Lib.itoa_length_le (Sm.sumL t.data.toList) (by omega) (by omega)
  go_enter Tryd.func64, Tryd.ntmps64
  go_wp2_with fail
  refine (Sm.impl_any t _ (by unfold maxLen; omega)).mono ?_
  rintro e w1 ⟨rfl, rfl⟩
  go_wp2_with fail
  refine (Fc.int_any _ _ (by omega) (by omega) ht).mono ?_
  rintro e w2 ⟨rfl, hb2⟩
  have Hb2 := Lib.hid hb2
  clear hb2
  go_wp2
  go_ret
  exact ⟨rfl, Hb2.out⟩

set_option maxHeartbeats 600000 in
theorem impl_any (x : ByteArray) (z : List Int) (w : World) (hx : x.size ≤ 1048576) (ht : Tab w) :
    Calls Tryd.prog 30 #[.string x, Agg z] w (JRet x z w) := by
  go_enter Tryd.func30, Tryd.ntmps30
  go_wp2_with fail
  refine (FaI.impl_any z _ (tab_alloc ht _)).mono ?_
  rintro e w1 hr
  obtain ⟨t, b, rfl, hf, hb1⟩ := ft_of hr
  have Hf := Lib.hid hf
  have Hb1 := Lib.hid (FaS.below_in hb1)
  have hts := ft_size hf
  clear hr hf hb1
  cases b
  · go_wp2
    go_ret2
    exact jret_no Hf.out (.inl rfl) Hb1.out
  · go_wp2_with fail
    refine (record_any t _ hts (tab_below ht Hb1.out)).mono ?_
    rintro e w2 ⟨rfl, hb2⟩
    have Hb2 := Lib.hid (Hb1.out.trans (hb2.mono Hb1.out.size))
    have hms := mk_size t
    clear hb2 Hb1
    by_cases hsz : x.size + (mk t).size ≤ 8000
    · go_wp2_with fail
      refine (record_any t _ hts (tab_below ht Hb2.out)).mono ?_
      rintro e w3 ⟨rfl, hb3⟩
      have Hb3 := Lib.hid (Hb2.out.trans (hb3.mono Hb2.out.size))
      clear hb3 Hb2
      go_wp2
      go_ret2
      exact jret_yes Hf.out hsz rfl Hb3.out
    · have hsz' : 8000 < (x.size : Int) + ((mk t).size : Int) := by omega
      go_wp2
      go_ret2
      exact jret_no Hf.out (.inr hsz) Hb2.out

set_option maxHeartbeats 600000 in
theorem spec_any (x : ByteArray) (z : List Int) (w : World) (hx : x.size ≤ 1048576) :
    Calls Tryd.prog 29 #[.string x, Agg z] w (JRet x z w) := by
  go_enter Tryd.func29, Tryd.ntmps29
  go_wp2_with fail
  refine (FaS.spec_any z _).mono ?_
  rintro e w1 hr
  obtain ⟨t, b, rfl, hf, hb1⟩ := ft_of hr
  have Hf := Lib.hid hf
  have Hb1 := Lib.hid (FaS.below_in hb1)
  have hts := ft_size hf
  have h1 := Sm.sumL_bd t.data.toList
  have h2 := Lib.itoa_length_le (Sm.sumL t.data.toList) (by omega) (by omega)
  clear hr hf hb1
  go_wp2_with fail
  refine (Sm.spec_any t _ (by unfold maxLen; omega)).mono ?_
  rintro e w2 ⟨rfl, rfl⟩
  go_wp2_with fail
  refine (Nm.fmt_any _ _ (by omega) (by omega)).mono ?_
  rintro e w2 ⟨rfl, hb2⟩
  have Hb2 := Lib.hid (Hb1.out.trans (hb2.mono Hb1.out.size))
  have hms := mk_size t
  clear hb2 Hb1
  have hme := congrArg ByteArray.size (spec_mk x t)
  rw [ByteArray.size_append (a := x) (b := mk t)] at hme
  cases b
  · go_wp2
    all_goals
      go_ret2
      exact jret_no Hf.out (.inl rfl) Hb2.out
  · by_cases hsz : x.size + (mk t).size ≤ 8000
    · have Hsz := Lib.hid hsz
      go_wp2
      all_goals
        go_ret2
        exact jret_yes Hf.out Hsz.out (spec_mk x t) Hb2.out
    · have Hsz := Lib.hid hsz
      go_wp2
      all_goals
        go_ret2
        exact jret_no Hf.out (.inr Hsz.out) Hb2.out
end Go.Proofs.YtebiefhfhjgmaaaDoor.Ja
