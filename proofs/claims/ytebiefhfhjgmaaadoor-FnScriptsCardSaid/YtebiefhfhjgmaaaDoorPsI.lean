/- impl.ParseScript: what it hands back. -/
import Derived.Test.YtebiefhfhjgmaaaDoorPsS
namespace Go.Proofs.YtebiefhfhjgmaaaDoor.Ps
set_option maxRecDepth 100000
open Go.RowKit Mm Ac AcM AcW Fp Tb Ja Sp Tx PaS Jr SpW

theorem own_lower {w : World} {a b T k n : Nat} {v : Value} {xs : List Value} (hab : a ≤ b) (h : w.ownsRow b T k v n xs) : w.ownsRow a T k v n xs := by
  obtain ⟨h1, h2 | ⟨g, cap, cur, h3, hb, r⟩⟩ := h
  · exact ⟨h1, .inl h2⟩
  · exact ⟨h1, .inr ⟨g, cap, cur, h3, Nat.le_trans hab hb, r⟩⟩
theorem psret_up {s : ByteArray} {w w1 w' : World} {e : Ending} (hb : Below w.heap.size w w1) (h : PsRet s w1 e w') : PsRet s w e w' := by
  obtain ⟨m, j, ok, A, c, h1, h2, h3, h4⟩ := h
  exact ⟨m, j, ok, A, c, h1, h2, own_lower hb.size h3, hb.trans (h4.mono hb.size)⟩
theorem count_lines : ∀ (fuel : Nat) (l : List UInt8), l.length < fuel → (splitL l).length = Lib.countFrom [10] fuel l + 1
  | 0, _, h => absurd h (by omega)
  | fuel + 1, l, h => by
    have hge := Lib.indexByte_ge l 10
    unfold Lib.countFrom
    rw [index_byte]
    by_cases hm : Lib.indexByte l 10 = -1
    · rw [hm, if_pos (by decide)]
      have hno : (10 : UInt8) ∉ l := fun hx => by
        obtain ⟨j, hj⟩ := List.getElem?_of_mem hx
        exact Lib.indexByte_none hm j hj
      rw [splitL_end _ hno]
      rfl
    · obtain ⟨o, ho⟩ : ∃ o : Nat, Lib.indexByte l 10 = (o : Int) := ⟨(Lib.indexByte l 10).toNat, by omega⟩
      obtain ⟨h1, h2⟩ := Lib.indexByte_some ho
      have hol : o < l.length := (List.getElem?_eq_some_iff.1 h1).1
      have hne : ((o : Int) == -1) = false := beq_eq_false_iff_ne.2 (by omega)
      rw [ho, hne, if_neg (by decide), Int.toNat_natCast, Nat.add_comm 1]
      have hd : l = l.take o ++ 10 :: l.drop (o + 1) := by
        have e1 := (List.take_append_drop o l).symm
        rw [List.drop_eq_getElem_cons hol] at e1
        rw [List.getElem?_eq_getElem hol] at h1
        rwa [Option.some.inj h1] at e1
      have hno : (10 : UInt8) ∉ l.take o := fun hx => by
        obtain ⟨j, hj⟩ := List.getElem?_of_mem hx
        rw [List.getElem?_take] at hj
        split at hj
        · exact h2 j (by omega) hj
        · cases hj
      have ih := count_lines fuel (l.drop (o + 1)) (by rw [List.length_drop]; omega)
      have e2 : ([10] : List UInt8).length = 1 := rfl
      rw [e2]
      conv => lhs; rw [hd]
      rw [splitL_app _ _ hno, List.length_cons, ih]
theorem countB_lines (s : ByteArray) : Lib.countB s ⟨#[10]⟩ + 1 = (linesOf s).length := by
  have h := count_lines (s.data.toList.length + 1) s.data.toList (by omega)
  have e3 : Lib.countB s ⟨#[10]⟩ = Lib.countFrom [10] (s.data.toList.length + 1) s.data.toList := rfl
  rw [e3, ← h]
  simp [linesOf]
theorem splitL_size : ∀ (l : List UInt8) (x : List UInt8), x ∈ splitL l → x.length ≤ l.length
  | [], x, h => by simp [splitL] at h; subst h; simp
  | c :: l, x, h => by
    simp only [splitL] at h
    split at h
    · rcases List.mem_cons.1 h with rfl | h
      · simp
      · have := splitL_size l x h; simp; omega
    · split at h
      · rename_i he; exact absurd he (splitL_ne l)
      · rename_i y r he
        rcases List.mem_cons.1 h with rfl | h
        · have := splitL_size l y (by rw [he]; simp); simp; omega
        · have := splitL_size l x (by rw [he]; simp [h]); simp; omega
theorem lines_size {s l : ByteArray} (h : l ∈ linesOf s) : l.size ≤ s.size := by
  obtain ⟨x, hx, rfl⟩ := List.mem_map.1 h
  exact splitL_size _ x hx
theorem lines_le (s : ByteArray) : (linesOf s).length ≤ s.size + 1 := by
  have := splitL_len s.data.toList
  have h1 : s.data.toList.length = s.size := rfl
  simp [linesOf]; omega

set_option maxHeartbeats 8000000 in
theorem impl_any (s : ByteArray) (w : World) (hs : s.size ≤ 1048576) (hv : MaxV w) :
    Calls Tryd.prog 37 #[.string s] w (PsRet s w) := by
  obtain ⟨i0, hi0, hz0, hz1, hz2⟩ := info_parts info_a
  by_cases h8 : 20000 < s.size
  · have Hj := Lib.hid (ps_long h8)
    go_enter Tryd.func37, Tryd.ntmps37
    go_wp2
    go_ret3
    exact psret_mk (j := 0) Hj.out (World.ownsRow_nil _ _ _ _) (Below.refl _ _)
  have h8' : s.size ≤ 20000 := by omega
  obtain ⟨mx, hmx⟩ := hv
  have Hmx := Lib.hid hmx
  clear h8 hmx
  go_enter Tryd.func37, Tryd.ntmps37
  go_wp2_with fail
  refine (Tryd.strings_Split s ⟨#[10]⟩ mx w (by omega) Hmx.out (by decide)).mono ?_
  rintro e w1 ⟨he, hw1⟩
  rw [countB_lines] at he
  rw [splitB_lines] at hw1
  obtain ⟨g, hg⟩ : ∃ g, w.heap.size = g := ⟨_, rfl⟩
  obtain ⟨n, hn⟩ : ∃ n, (linesOf s).length = n := ⟨_, rfl⟩
  rw [hg, hn] at he
  subst he
  have Hbw : Hid (Below w.heap.size w w1) := by rw [hw1]; exact (Below.refl _ _).alloc (Nat.le_refl _) _
  have Hgs : Hid (w1.heap.size = g + 1) := Lib.hid (by rw [hw1, World.size_alloc, hg])
  have Hcl : Hid (∀ (k : Nat) (l : ByteArray), (linesOf s)[k]? = some l → w1.cell? ⟨g, k, none⟩ = some (.string l)) := by
    intro k l hkl
    have := (Blk.new w 9 ((linesOf s).map Value.string).toArray).cell k
    rw [hw1, ← hg]
    refine this.trans ?_
    rw [List.getElem?_toArray, List.getElem?_map, hkl]
    rfl
  have hnl : n ≤ 20001 := by have := lines_le s; omega
  have Hn := Lib.hid hn
  clear hw1 hg Hmx hn
  go_wp2
  go_loopw [6, 21] (fun v i wr => ∃ (k : Nat) (m : List (List Int)), k ≤ n ∧ i = .int .i64 k ∧ Proc ((linesOf s).take k) m ∧ wr.ownsRow w1.heap.size 44 5 v m.length ((rows m).map I) ∧ Below w1.heap.size w1 wr) (fun _ i _ => n - (intOf i).toNat)
  case atStart => exact ⟨0, [], Nat.zero_le _, rfl, rfl, World.ownsRow_made _ _ _ (Nat.le_refl _) (Nat.zero_le _) rfl, by go_grown⟩
  case round =>
    obtain ⟨k, m, hk, rfl, hpr, hown, hbel⟩ := hrel
    obtain ⟨Av, cv, rfl⟩ := own_form hown
    have hml := proc_len hpr
    have htk : ((linesOf s).take k).length = k := by rw [List.length_take, Hn.out]; omega
    rw [htk] at hml
    have Htk := Lib.hid htk
    have Hpr := Lib.hid hpr
    have Hown := Lib.hid hown
    have Hbel := Lib.hid hbel
    have hsz := hbel.size
    clear hpr hown hbel htk
    by_cases hend : k = n
    · subst hend
      have Hall := Lib.hid (show (linesOf s).take k = linesOf s by rw [← Hn.out, List.take_length])
      have Hpa := Lib.hid (show Proc (linesOf s) m by rw [← Hall.out]; exact Hpr.out)
      have Hni := Lib.hid (show (k : Int) = ((linesOf s).length : Int) by rw [Hn.out])
      by_cases h80 : 80 < m.length
      · have Hj := Lib.hid (ps_many h8' Hpa.out h80)
        have h80' : (80 : Int) < (m.length : Int) := by omega
        go_wp2
        go_ret3
        exact psret_up Hbw.out (psret_mk (j := 0) Hj.out (World.ownsRow_nil _ _ _ _) Hbel.out)
      · have Hj := Lib.hid (ps_end h8' Hpa.out (by omega))
        go_wp2
        go_ret3
        exact psret_up Hbw.out (psret_mk' Hj.out Hni.out Hown.out Hbel.out)
    · have hk' : k < n := by omega
      obtain ⟨l, hl⟩ : ∃ l, (linesOf s)[k]? = some l := ⟨_, List.getElem?_eq_getElem (by rw [Hn.out]; exact hk')⟩
      have hls := lines_size (List.mem_of_getElem? hl)
      have Hes := Lib.hid (show l.size ≤ maxLen by unfold maxLen; omega)
      have hq : (wr).cell? ⟨g, k, none⟩ = some (.string l) := (Hbel.out.cell (p := ⟨g, k, none⟩) (by show g < _; rw [Hgs.out]; exact Nat.lt_succ_self g)).trans (Hcl.out k l hl)
      have Htk1 := Lib.hid (show (linesOf s).take (k + 1) = (linesOf s).take k ++ [l] by rw [List.take_add_one, hl]; rfl)
      have Hl := Lib.hid (show linesOf s = (linesOf s).take k ++ l :: (linesOf s).drop (k + 1) by
        have e1 := (List.take_append_drop k (linesOf s)).symm
        rw [List.drop_eq_getElem_cons (by rw [Hn.out]; exact hk')] at e1
        rw [List.getElem?_eq_getElem (by rw [Hn.out]; exact hk')] at hl
        rwa [Option.some.inj hl] at e1)
      clear hk hend hl hls
      rcases line_cases (l) with hL | ⟨hL, hf⟩ | ⟨f0, fr, hL, hf, hf0, hl6⟩
      · have Hns := Lib.hid (skip_no hL)
        have HL := Lib.hid hL
        clear hL
        go_wp2_with fail
        refine (SpW.impl_any (l) _ Hes.out).mono ?_
        rintro e w2 (⟨hL2, _⟩ | ⟨_, A2, c2, rfl, hb2⟩)
        · exact absurd hL2 HL.out
        have Hown2 := Lib.hid (own_below Hown.out hb2)
        have Hbel2 := Lib.hid (Hbel.out.trans (hb2.mono hsz))
        clear hb2 Hown Hbel
        go_wp2_with fail
        refine (PaI.impl_any (l) _ Hes.out).mono ?_
        rintro e w3 ⟨hr, hb3⟩
        have Hown3 := Lib.hid (own_below Hown2.out hb3)
        have Hbel3 := Lib.hid (Hbel2.out.trans (hb3.mono Hbel2.out.size))
        have hsz3 := Hbel3.out.size
        clear hb3 Hown2 Hbel2
        rcases hr with ⟨z, hz, rfl⟩ | ⟨hz, rfl⟩
        · have Hz := Lib.hid hz
          clear hz
          go_wp2_with (at_builtin; refine wpList_append_own _ rfl (.tmp 53) (.tmp 55) 52 rfl w1.heap.size 44 i0 _ 5 40 Tryd.underlying52 hi0 hz0 hz1 hz2 rfl (by omega) _ _ _ rfl ((Hown3.out.alloc _).alloc _) ⟨w3.heap.size + 1, 0, none⟩ 1 1 [I (gI z 0), I (gI z 1), I (gI z 2), I (gI z 3), I (gI z 4)] rfl rfl ?a1 ?a2 ?a3 ?a4 ?a5 ?_)
          case a1 => have := cells_new (w3.alloc (.cells #[I (gI z 0), I (gI z 1), I (gI z 2), I (gI z 3), I (gI z 4)] 44)) #[I (gI z 0), I (gI z 1), I (gI z 2), I (gI z 3), I (gI z 4)] 44; rw [World.size_alloc] at this; exact this
          case a2 => intro u hu; simp at hu; rcases hu with rfl | rfl | rfl | rfl | rfl <;> rfl
          case a3 => unfold maxLen; omega
          case a4 => omega
          case a5 => simp; omega
          intro v4 w4 hown4 hgr4 _
          have Hown4 : Hid (w4.ownsRow w1.heap.size 44 5 v4 (m ++ [z]).length ((rows (m ++ [z])).map I)) := by rw [rows_snoc, List.map_append, List.length_append]; exact hown4
          have Hbel4 := Lib.hid (below_own ((Hbel3.out.alloc hsz3 _).alloc (by simp; omega) _) ((Hown3.out.alloc _).alloc _) hgr4 (Nat.le_refl _))
          clear hown4 hgr4 Hown3 Hbel3
          go_wp2
          go_roundw
          case rel => exact ⟨k + 1, m ++ [z], by omega, by go_num, by rw [Htk1.out]; exact proc_act Hpr.out Hns.out Hz.out, Hown4.out, Hbel4.out⟩
          case measure => simp [intOf] <;> omega
        · have HB := Lib.hid (show Bad (l) from ⟨Hns.out, hz⟩)
          clear hz
          go_wp2
          go_ret3
          exact psret_up Hbw.out (psret_mk' (ps_bad h8' Hl.out Hpr.out HB.out) (by rw [Htk.out]; simp) (World.ownsRow_nil _ _ _ _) (Hbel3.out.alloc hsz3 _))
      · have Hsk := Lib.hid (skip_nil hL hf)
        have HL := Lib.hid hL
        have Hf := Lib.hid hf
        clear hL hf
        go_wp2_with fail
        refine (SpW.impl_any (l) _ Hes.out).mono ?_
        rintro e w2 (⟨_, A2, c2, rfl, ho2, hb2⟩ | ⟨hL2, _⟩)
        rotate_left
        · exact absurd HL.out hL2
        rw [Hf.out] at ho2 ⊢
        have Hown2 := Lib.hid (own_below Hown.out hb2)
        have Hbel2 := Lib.hid (Hbel.out.trans (hb2.mono hsz))
        clear hb2 ho2 Hown Hbel
        go_wp2
        go_roundw
        case rel => exact ⟨k + 1, m, by omega, by go_num, by rw [Htk1.out]; exact proc_skip Hpr.out Hsk.out, Hown2.out, Hbel2.out⟩
        case measure => simp [intOf] <;> omega
      · have HL := Lib.hid hL
        have Hf := Lib.hid hf
        have hnf : ((((f0 :: fr).length : Nat) : Int) == 0) = false := beq_eq_false_iff_ne.2 (by simp; omega)
        have hnf1 : ((fr.length : Int) + 1 == 0) = false := beq_eq_false_iff_ne.2 (by omega)
        have hpos : 0 < (f0 :: fr).length := by simp
        clear hL hf
        go_wp2_with fail
        refine (SpW.impl_any (l) _ Hes.out).mono ?_
        rintro e w2 (⟨_, A2, c2, rfl, ho2, hb2⟩ | ⟨hL2, _⟩)
        rotate_left
        · exact absurd HL.out hL2
        rw [Hf.out] at ho2 ⊢
        obtain ⟨gf, rfl, hgf, hcf⟩ := PaS.own_cells ho2 hpos
        have q0 := hcf 0 (.string f0) rfl
        have Hown2 := Lib.hid (own_below Hown.out hb2)
        have Hbel2 := Lib.hid (Hbel.out.trans (hb2.mono hsz))
        obtain ⟨nf, hnfe, hnfp⟩ : ∃ nf, (f0 :: fr).length = nf ∧ 0 < nf := ⟨_, rfl, hpos⟩
        rw [hnfe] at hnf ⊢
        have hnfi : (0 : Int) < (nf : Int) := by omega
        clear hb2 ho2 Hown Hbel hcf hpos hnf1 hnfe
        by_cases h59 : f0[0].toNat = 59
        · have hb59 : ((f0[0].toNat : Int) == 59) = true := by rw [h59]; rfl
          have Hsk := Lib.hid (skip_yes HL.out Hf.out ((byte0 hf0).2 h59))
          clear h59
          go_wp2
          go_roundw
          case rel => exact ⟨k + 1, m, by omega, by go_num, by rw [Htk1.out]; exact proc_skip Hpr.out Hsk.out, Hown2.out, Hbel2.out⟩
          case measure => simp [intOf] <;> omega
        · have hb59 : ((f0[0].toNat : Int) == 59) = false := beq_eq_false_iff_ne.2 (by omega)
          have Hns := Lib.hid (skip_not Hf.out (fun h => h59 ((byte0 hf0).1 h)))
          clear h59
          go_wp2_with fail
          refine (PaI.impl_any (l) _ Hes.out).mono ?_
          rintro e w3 ⟨hr, hb3⟩
          have Hown3 := Lib.hid (own_below Hown2.out hb3)
          have Hbel3 := Lib.hid (Hbel2.out.trans (hb3.mono Hbel2.out.size))
          have hsz3 := Hbel3.out.size
          clear hb3 Hown2 Hbel2
          rcases hr with ⟨z, hz, rfl⟩ | ⟨hz, rfl⟩
          · have Hz := Lib.hid hz
            clear hz
            go_wp2_with (at_builtin; refine wpList_append_own _ rfl (.tmp 53) (.tmp 55) 52 rfl w1.heap.size 44 i0 _ 5 40 Tryd.underlying52 hi0 hz0 hz1 hz2 rfl (by omega) _ _ _ rfl ((Hown3.out.alloc _).alloc _) ⟨w3.heap.size + 1, 0, none⟩ 1 1 [I (gI z 0), I (gI z 1), I (gI z 2), I (gI z 3), I (gI z 4)] rfl rfl ?b1 ?b2 ?b3 ?b4 ?b5 ?_)
            case b1 => have := cells_new (w3.alloc (.cells #[I (gI z 0), I (gI z 1), I (gI z 2), I (gI z 3), I (gI z 4)] 44)) #[I (gI z 0), I (gI z 1), I (gI z 2), I (gI z 3), I (gI z 4)] 44; rw [World.size_alloc] at this; exact this
            case b2 => intro u hu; simp at hu; rcases hu with rfl | rfl | rfl | rfl | rfl <;> rfl
            case b3 => unfold maxLen; omega
            case b4 => omega
            case b5 => simp; omega
            intro v4 w4 hown4 hgr4 _
            have Hown4 : Hid (w4.ownsRow w1.heap.size 44 5 v4 (m ++ [z]).length ((rows (m ++ [z])).map I)) := by rw [rows_snoc, List.map_append, List.length_append]; exact hown4
            have Hbel4 := Lib.hid (below_own ((Hbel3.out.alloc hsz3 _).alloc (by simp; omega) _) ((Hown3.out.alloc _).alloc _) hgr4 (Nat.le_refl _))
            clear hown4 hgr4 Hown3 Hbel3
            go_wp2
            go_roundw
            case rel => exact ⟨k + 1, m ++ [z], by omega, by go_num, by rw [Htk1.out]; exact proc_act Hpr.out Hns.out Hz.out, Hown4.out, Hbel4.out⟩
            case measure => simp [intOf] <;> omega
          · have HB := Lib.hid (show Bad (l) from ⟨Hns.out, hz⟩)
            clear hz
            go_wp2
            go_ret3
            exact psret_up Hbw.out (psret_mk' (ps_bad h8' Hl.out Hpr.out HB.out) (by rw [Htk.out]; simp) (World.ownsRow_nil _ _ _ _) (Hbel3.out.alloc hsz3 _))
end Go.Proofs.YtebiefhfhjgmaaaDoor.Ps
