/- impl.JournalRead: what it hands back, for every string of bounded length. -/
import Derived.Test.YtebiefhfhjgmaaaDoorJRead
import Derived.Test.YtebiefhfhjgmaaaDoorShelf
import Derived.Test.YtebiefhfhjgmaaaDoorBits
import Derived.Deep.RegionHeld3
import Derived.Deep.QuietTactic
import Derived.BigQuiet
import Derived.Outline
namespace Go.Proofs.YtebiefhfhjgmaaaDoor.Jr
set_option maxRecDepth 100000
open Go.RowKit Mm Ac AcM AcW Fp Tb Ja Sp Tx PaS

/-- The library's own variable holds some number. -/
def MaxV (w : World) : Prop := ∃ m, w.cell? ⟨0, 0, none⟩ = some (.int .i64 m)
theorem max_below {w w' : World} (h : MaxV w) (hb : Below w.heap.size w w') : MaxV w' := by
  obtain ⟨m, hm⟩ := h
  exact ⟨m, (hb.cell (p := ⟨0, 0, none⟩) (World.block_lt_of_cell? w _ hm)).trans hm⟩
theorem ext_get (s : ByteArray) (b e k : Nat) (h : b + k < e) (he : e ≤ s.size) : (s.extract b e).data.toList[k]? = s.data[b + k]? := by
  rw [Array.getElem?_toList, ByteArray.data_extract, Array.getElem?_extract]
  rw [if_pos (by have : min e s.data.size = e := Nat.min_eq_left he; omega)]
theorem ext_len (s : ByteArray) (b e : Nat) (he : e ≤ s.size) : (s.extract b e).data.toList.length = e - b := by
  have : (s.extract b e).size = min e s.size - b := ByteArray.size_extract
  have h2 : (s.extract b e).data.toList.length = (s.extract b e).size := rfl
  omega
/-- p is the part of r before its first slash; r where there is none. -/
def CutOf (r p : ByteArray) : Prop := (∃ i, FirstAt r 47 i ∧ p = r.extract 0 i) ∨ ((∀ i, ¬ FirstAt r 47 i) ∧ p = r)
theorem index_byte (l : List UInt8) (c : UInt8) : Lib.index l [c] = Lib.indexByte l c := by
  induction l with
  | nil => rfl
  | cons b l ih =>
    simp only [Lib.index, Lib.indexByte, ih, List.isPrefixOf, Bool.and_true]
    by_cases h : b = c
    · subst h; simp
    · have h1 : (c == b) = false := beq_eq_false_iff_ne.2 fun e => h e.symm
      have h2 : (b == c) = false := beq_eq_false_iff_ne.2 h
      rw [h1, h2]
theorem cut_of (r : ByteArray) : ∃ p, (⟨(Lib.cut r.data.toList (⟨#[47]⟩ : ByteArray).data.toList).1.toArray⟩ : ByteArray) = p ∧ p.size ≤ r.size ∧ CutOf r p := by
  have e0 : (⟨#[47]⟩ : ByteArray).data.toList = [47] := rfl
  rw [e0]
  unfold Lib.cut
  rw [index_byte]
  have hge := Lib.indexByte_ge r.data.toList 47
  by_cases h : Lib.indexByte r.data.toList 47 = -1
  · rw [h, if_neg (by decide)]
    refine ⟨r, by simp, Nat.le_refl _, .inr ⟨fun i hi => ?_, rfl⟩⟩
    exact Lib.indexByte_none h i (by rw [Array.getElem?_toList]; exact hi.2.1)
  · obtain ⟨o, ho⟩ : ∃ o : Nat, Lib.indexByte r.data.toList 47 = (o : Int) := ⟨(Lib.indexByte r.data.toList 47).toNat, by omega⟩
    obtain ⟨h1, h2⟩ := Lib.indexByte_some ho
    rw [ho, if_pos (by omega), Int.toNat_natCast]
    rw [Array.getElem?_toList] at h1
    have hlt : o < r.size := (Array.getElem?_eq_some_iff.1 h1).1
    refine ⟨r.extract 0 o, ?_, by rw [ByteArray.size_extract]; omega, .inl ⟨o, ⟨hlt, h1, fun j hj => by have := h2 j hj; rwa [Array.getElem?_toList] at this⟩, rfl⟩⟩
    apply ByteArray.ext
    rw [ByteArray.data_extract]
    apply Array.ext'
    simp
theorem cut_rec {r p : ByteArray} {z : List Int} {t : ByteArray} (hc : CutOf r p) (ha : IsAct p z) (hf : FT z t true) : mk t = r ++ ⟨#[59]⟩ ↔ Rec r z := by
  constructor
  · intro h
    obtain ⟨i, hi⟩ := rec_slash h
    rcases hc with ⟨j, hj, rfl⟩ | ⟨hn, _⟩
    · obtain rfl := firstAt_fun hi hj
      exact ⟨i, t, hi, ha, hf, h⟩
    · exact absurd hi (hn i)
  · rintro ⟨i, t', hi, _, hf', h⟩
    rw [(ft_fun hf hf').1, h]
theorem cut_no {r p : ByteArray} (hc : CutOf r p) (ha : ∀ z, ¬ IsAct p z) (z : List Int) : ¬ Rec r z := by
  rintro ⟨i, t', hi, h, _⟩
  rcases hc with ⟨j, hj, rfl⟩ | ⟨hn, _⟩
  · obtain rfl := firstAt_fun hi hj
    exact ha z h
  · exact absurd hi (hn i)
theorem ext_semi (s : ByteArray) (b f : Nat) (hbf : b ≤ f) (h : f < s.size) (h2 : s.data[f]? = some 59) : s.extract b (f + 1) = s.extract b f ++ ⟨#[59]⟩ := by
  obtain ⟨o, rfl⟩ : ∃ o, f = b + o := ⟨f - b, by omega⟩
  apply ByteArray.ext
  rw [ByteArray.data_append, ByteArray.data_extract, ByteArray.data_extract]
  apply Array.ext_getElem?
  intro j
  have hs : (s.data.extract b (b + o)).size = o := by rw [Array.size_extract]; have : min (b + o) s.data.size = b + o := Nat.min_eq_left (by exact Nat.le_of_lt h); omega
  have m1 : min (b + o + 1) s.data.size = b + o + 1 := Nat.min_eq_left h
  have m2 : min (b + o) s.data.size = b + o := Nat.min_eq_left (Nat.le_of_lt h)
  rcases Nat.lt_trichotomy j o with hj | hj | hj
  · rw [Array.getElem?_append_left (by omega), Array.getElem?_extract, Array.getElem?_extract, if_pos (by omega), if_pos (by omega)]
  · subst hj
    rw [Array.getElem?_append_right (by omega), hs, Nat.sub_self, Array.getElem?_extract, if_pos (by omega), h2]
    rfl
  · rw [Array.getElem?_append_right (by omega), hs, Array.getElem?_extract, if_neg (by omega), Array.getElem?_eq_none (by show 1 ≤ j - o; omega)]

set_option maxHeartbeats 4000000 in
theorem impl_any (s : ByteArray) (w : World) (hs : s.size ≤ 1048576) (ht : Tab w) (hv : MaxV w) :
    Calls Tryd.prog 42 #[.string s] w (JRt s w) := by
  obtain ⟨i0, hi0, hz0, hz1, hz2⟩ := info_parts info_a
  by_cases h8 : 8000 < s.size
  · have Hj : Hid (JOf s [] 0) := .inl ⟨h8, rfl, rfl⟩
    go_enter Tryd.func42, Tryd.ntmps42
    go_wp2
    go_ret2
    exact jrt_of Hj.out (World.ownsRow_nil _ _ _ _) (by go_grown)
  have h8' : s.size ≤ 8000 := by omega
  have Ht := Lib.hid ht
  have Hv := Lib.hid hv
  clear h8 ht hv
  go_enter Tryd.func42, Tryd.ntmps42
  go_wp2
  go_loopw [4, 5] (fun v q wr => ∃ (b : Nat) (m : List (List Int)), b ≤ s.size ∧ q = .int .i64 b ∧ Chain s 0 m b ∧ wr.ownsRow w.heap.size 44 5 v m.length ((rows m).map I) ∧ Below w.heap.size w wr) (fun _ q _ => s.size - (intOf q).toNat)
  case atStart => exact ⟨0, [], Nat.zero_le _, rfl, rfl, World.ownsRow_made _ _ _ (Nat.le_refl _) (Nat.zero_le _) rfl, by go_grown⟩
  case round =>
    obtain ⟨b, m, hbs, rfl, hch, hown, hbel⟩ := hrel
    obtain ⟨A, c, rfl⟩ := own_form hown
    have hml := chain_len hch
    have Hch := Lib.hid hch
    have Hown := Lib.hid hown
    have Hbel := Lib.hid hbel
    have hsz := hbel.size
    clear hch hown hbel
    have hge := Lib.indexByte_ge (s.extract b s.size).data.toList 59
    by_cases hidx : Lib.indexByte (s.extract b s.size).data.toList 59 = -1
    · have Hj : Hid (JOf s m b) := .inr ⟨h8', Hch.out, fun z' e' ⟨i, h1, _, h2, h3, _⟩ => by
        have := Lib.indexByte_none hidx (i - b)
        rw [ext_get s b s.size (i - b) (by omega) (Nat.le_refl _), show b + (i - b) = i by omega] at this
        exact this h3⟩
      have Hidx := Lib.hid hidx
      clear hge hidx
      go_wp2_with fail
      refine (Tryd.strings_IndexByte (s.extract b s.size) 59 _).mono ?_
      rintro e w1 ⟨he, rfl⟩
      rw [show ((59 : Int).toNat.toUInt8) = 59 from rfl, Hidx.out] at he
      subst he
      go_wp2
      go_ret2
      exact jrt_of Hj.out Hown.out Hbel.out
    · obtain ⟨o, ho⟩ : ∃ o : Nat, Lib.indexByte (s.extract b s.size).data.toList 59 = (o : Int) := ⟨(Lib.indexByte (s.extract b s.size).data.toList 59).toNat, by omega⟩
      obtain ⟨h1, h2⟩ := Lib.indexByte_some ho
      have hol : o < s.size - b := by
        rw [← ext_len s b s.size (Nat.le_refl _)]
        rcases Nat.lt_or_ge o (s.extract b s.size).data.toList.length with h | h
        · exact h
        · rw [List.getElem?_eq_none h] at h1; cases h1
      rw [ext_get s b s.size o (by omega) (Nat.le_refl _)] at h1
      obtain ⟨f, hf⟩ : ∃ f, b + o = f := ⟨_, rfl⟩
      rw [hf] at h1
      have H59 := Lib.hid h1
      have Hno : Hid (∀ j, b ≤ j → j < f → s.data[j]? ≠ some 59) := fun j hj1 hj2 => by
        have := h2 (j - b) (by omega)
        rwa [ext_get s b s.size (j - b) (by omega) (Nat.le_refl _), show b + (j - b) = j by omega] at this
      have Hidx := Lib.hid ho
      clear hge hidx ho h1 h2
      obtain ⟨p, hp, hps, hcut⟩ := cut_of (s.extract b f)
      have Hp := Lib.hid hp
      have Hcut := Lib.hid hcut
      have hes : (s.extract b f).size ≤ 8000 := by rw [ByteArray.size_extract]; omega
      have hpm : p.size ≤ maxLen := by unfold maxLen; omega
      have Hpm := Lib.hid hpm
      have Hes := Lib.hid hes
      have o1 : (f : Int) + 1 ≤ (s.size : Int) := by omega
      have hbo : (b : Int) + (o : Int) = (f : Int) := by omega
      obtain ⟨g, hg⟩ : ∃ g, f + 1 = g := ⟨_, rfl⟩
      have hfg : (f : Int) + 1 = (g : Int) := by omega
      have o2 : (g : Int) ≤ (s.size : Int) := by omega
      have o3 : (b : Int) ≤ (f : Int) := by omega
      have o4 : b ≤ f := by omega
      have o5 : g ≤ s.size := by omega
      have o6 : f ≤ s.size := by omega
      have o7 : b ≤ g := by omega
      have Hgg := Lib.hid hg
      clear hp hps hcut hes hpm hf hg o1
      go_wp2_with fail
      refine (Tryd.strings_IndexByte (s.extract b s.size) 59 _).mono ?_
      rintro e w1 ⟨he, rfl⟩
      rw [show ((59 : Int).toNat.toUInt8) = 59 from rfl, Hidx.out] at he
      subst he
      go_wp2_with fail
      obtain ⟨mx, hmx⟩ := max_below Hv.out Hbel.out
      refine (Tryd.strings_Cut (s.extract b f) ⟨#[47]⟩ mx _ (Nat.lt_of_le_of_lt Hes.out (by decide)) hmx).mono ?_
      rintro e w2 ⟨he, nq, rfl⟩
      rw [Hp.out] at he
      subst he
      have Hown2 := Lib.hid (own_below Hown.out (below_drewN (Below.refl _ _) nq))
      have Hbel2 := Lib.hid (below_drewN Hbel.out nq)
      have hsz2 := Hbel2.out.size
      clear hmx Hown Hbel
      go_wp2_with fail
      refine (PaI.impl_any p _ Hpm.out).mono ?_
      rintro e w3 ⟨hr, hb3⟩
      have Hown3 := Lib.hid (own_below Hown2.out hb3)
      have Hbel3 := Lib.hid (Hbel2.out.trans (hb3.mono hsz2))
      have hsz3 := Hbel3.out.size
      clear hb3 Hown2 Hbel2
      rcases hr with ⟨z, hz, rfl⟩ | ⟨hz, rfl⟩
      · have Hz := Lib.hid hz
        clear hz
        go_wp2_with fail
        refine (FaI.impl_any z _ (tab_below Ht.out (Hbel3.out.alloc hsz3 _))).mono ?_
        rintro e w4 hr
        obtain ⟨t, v, rfl, hf, hb4⟩ := ft_of hr
        obtain rfl := isAct_ft Hz.out hf
        have Hf := Lib.hid hf
        have hts := ft_size hf
        have hk4 := (Blk.new w3 44 #[I (gI z 0), I (gI z 1), I (gI z 2), I (gI z 3), I (gI z 4)]).below hb4 (by simp)
        have Hk4 := Lib.hid hk4
        have Hown4 := Lib.hid (own_below (Hown3.out.alloc (.cells #[I (gI z 0), I (gI z 1), I (gI z 2), I (gI z 3), I (gI z 4)] 44)) hb4)
        have Hbel4 : Hid (Below w.heap.size w w4) := (Hbel3.out.alloc hsz3 _).trans (hb4.mono (by simp; omega))
        have hgl4 := hk4.lt
        obtain ⟨v, hv⟩ : ∃ v, ((mk t).toList == (s.extract b g).toList) = v := ⟨_, rfl⟩
        have Hvv : Hid (v = true ↔ Rec (s.extract b f) z) := by
          show _ ↔ _
          rw [← cut_rec Hcut.out Hz.out hf, ← ext_semi s b f o4 (by omega) H59.out, Hgg.out, ← hv, beq_iff_eq]
          constructor
          · intro e
            apply ByteArray.ext
            rw [ByteArray.toList_eq, ByteArray.toList_eq] at e
            exact Array.toList_inj.1 e
          · intro e; rw [e]
        clear hr hf hb4 hk4 Hown3 Hbel3
        have wf1 : IntKind.i64.wrap (f : Int) = (f : Int) := Bt.wraps_i64 _ (by omega) (by omega)
        have wf2 : IntKind.i64.wrap (g : Int) = (g : Int) := Bt.wraps_i64 _ (by omega) (by omega)
        go_wp2_with fail
        go_region_held3 (fun w' => Below w4.heap.size w4 w')
          ((first | exact Below.trans (by assumption) (by assumption) | exact (Below.refl _ _).drew | assumption))
          ((first | (go_at_call 64; refine (Ja.record_any t _ hts (tab_below (tab_below Ht.out Hbel4.out) (by assumption))).mono ?_; rintro e w5 ⟨rfl, hb5⟩)))
        have Hb5 : Hid (Below w4.heap.size w4 w5) := (Below.refl _ _).drew.trans hb5
        have hk5 := Hk4.out.below Hb5.out hgl4
        have Hown5 := Lib.hid (own_below Hown4.out Hb5.out)
        have Hbel5 := Lib.hid (Hbel4.out.trans (Hb5.out.mono Hbel4.out.size))
        have hsz5 := Hbel5.out.size
        have c0 : w5.cell? ⟨w3.heap.size, 0, none⟩ = some (I (gI z 0)) := hk5.cell 0
        have c1 : w5.cell? ⟨w3.heap.size, 1, none⟩ = some (I (gI z 1)) := hk5.cell 1
        have c2 : w5.cell? ⟨w3.heap.size, 2, none⟩ = some (I (gI z 2)) := hk5.cell 2
        have c3 : w5.cell? ⟨w3.heap.size, 3, none⟩ = some (I (gI z 3)) := hk5.cell 3
        have c4 : w5.cell? ⟨w3.heap.size, 4, none⟩ = some (I (gI z 4)) := hk5.cell 4
        clear hb5 hk5 Hown4 Hbel4 Hb5 Hk4
        cases v
        · have Hj : Hid (JOf s m b) := .inr ⟨h8', Hch.out, fun z' e' ⟨i, h1, _, h2, h3, h4, h5⟩ => by
            have hi : i = f := by
              rcases Nat.lt_trichotomy i f with h | h | h
              · exact absurd h3 (Hno.out i h1 h)
              · exact h
              · exact absurd H59.out (h4 f o4 h)
            subst hi
            obtain rfl : z' = z := by
              obtain ⟨q, _, hq, ha, _⟩ := h5
              rcases Hcut.out with ⟨q', hq', rfl⟩ | ⟨hn, _⟩
              · obtain rfl := firstAt_fun hq hq'
                exact isAct_fun ha Hz.out
              · exact absurd hq (hn q)
            exact absurd (Hvv.out.2 h5) (by decide)⟩
          go_wp2
          go_ret2
          exact jrt_of Hj.out Hown5.out Hbel5.out
        · have HS : Hid (Step s b z g) := ⟨f, o4, Hgg.out.symm, by omega, H59.out, Hno.out, Hvv.out.1 rfl⟩
          go_wp2_with (at_builtin; refine wpList_append_own _ rfl (.tmp 63) (.tmp 65) 52 rfl w.heap.size 44 i0 _ 5 40 Tryd.underlying52 hi0 hz0 hz1 hz2 rfl (by omega) _ _ _ rfl (Hown5.out.alloc _) ⟨w5.heap.size, 0, none⟩ 1 1 [I (gI z 0), I (gI z 1), I (gI z 2), I (gI z 3), I (gI z 4)] rfl rfl ?k1 ?k2 ?k3 ?k4 ?k5 ?_)
          case k2 => exact ⟨rfl, rfl, rfl, rfl, rfl⟩
          case k3 => unfold maxLen; omega
          case k4 => omega
          case k5 => omega
          intro v2 w6 hown6 hgr6 _
          have Hown6 : Hid (w6.ownsRow w.heap.size 44 5 v2 (m ++ [z]).length ((rows (m ++ [z])).map I)) := by rw [rows_snoc, List.map_append, List.length_append]; exact hown6
          have Hbel6 := Lib.hid (below_own (Hbel5.out.alloc hsz5 _) (Hown5.out.alloc _) hgr6 (Nat.le_refl _))
          have hog : (b : Int) + ((o : Int) + 1) = (g : Int) := by omega
          clear hown6 hgr6 Hown5 Hbel5
          go_wp2
          go_roundw
          case rel => exact ⟨g, m ++ [z], o5, by go_num, chain_snoc Hch.out HS.out, Hown6.out, Hbel6.out⟩
          case measure => simp [intOf]; omega
      · have Hj : Hid (JOf s m b) := .inr ⟨h8', Hch.out, fun z' e' ⟨i, h1, _, h2, h3, h4, h5⟩ => by
          have hi : i = f := by
            rcases Nat.lt_trichotomy i f with h | h | h
            · exact absurd h3 (Hno.out i h1 h)
            · exact h
            · exact absurd H59.out (h4 f o4 h)
          subst hi
          exact cut_no Hcut.out hz z' h5⟩
        clear hz
        go_wp2_with fail
        refine (FaI.impl_any [] _ (tab_below Ht.out (Hbel3.out.alloc hsz3 _))).mono ?_
        rintro e w4 hr
        obtain ⟨t, v, rfl, hf, hb4⟩ := ft_of hr
        have Hown4 := Lib.hid (own_below (Hown3.out.alloc (.cells #[I (gI [] 0), I (gI [] 1), I (gI [] 2), I (gI [] 3), I (gI [] 4)] 44)) hb4)
        have Hbel4 : Hid (Below w.heap.size w w4) := (Hbel3.out.alloc hsz3 _).trans (hb4.mono (by simp; omega))
        have wf1 : IntKind.i64.wrap (f : Int) = (f : Int) := Bt.wraps_i64 _ (by omega) (by omega)
        have wf2 : IntKind.i64.wrap (g : Int) = (g : Int) := Bt.wraps_i64 _ (by omega) (by omega)
        clear hr hf hb4 Hown3 Hbel3
        go_wp2_with fail
        go_quiet (fail)
        go_wp2
        go_ret2
        exact jrt_of Hj.out (own_below Hown4.out (below_drewN (Below.refl _ _) nq)) (below_drewN Hbel4.out nq)
end Go.Proofs.YtebiefhfhjgmaaaDoor.Jr
