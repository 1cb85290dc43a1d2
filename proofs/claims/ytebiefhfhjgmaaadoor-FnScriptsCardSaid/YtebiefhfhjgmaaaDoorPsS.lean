/- spec.ParseScript: what it hands back, for every string of bounded length. -/
import Derived.Test.YtebiefhfhjgmaaaDoorPsP
namespace Go.Proofs.YtebiefhfhjgmaaaDoor.Ps
set_option maxRecDepth 100000
open Go.RowKit Mm Ac AcM AcW Fp Tb Ja Sp Tx PaS Jr SpW

/-- What ParseScript hands back. -/
def PsRet (s : ByteArray) (w : World) (e : Ending) (w' : World) : Prop :=
  ∃ m j ok A c, PsOf s m j ok ∧ e = .returned (.tuple #[.slice A m.length c, I ((j : Nat) : Int), .bool ok]) ∧ w'.ownsRow w.heap.size 44 5 (.slice A m.length c) m.length ((rows m).map I) ∧ Below w.heap.size w w'
theorem psret_mk {s : ByteArray} {m : List (List Int)} {j : Nat} {ok : Bool} {w w' : World} {v : Value} (h : PsOf s m j ok) (ho : w'.ownsRow w.heap.size 44 5 v m.length ((rows m).map I)) (hb : Below w.heap.size w w') : PsRet s w (.returned (.tuple #[v, I ((j : Nat) : Int), .bool ok])) w' := by
  obtain ⟨A, c, rfl⟩ := own_form ho
  exact ⟨m, j, ok, A, c, h, rfl, ho, hb⟩
theorem psret_mk' {s : ByteArray} {m : List (List Int)} {j : Nat} {i : Int} {ok : Bool} {w w' : World} {v : Value} (h : PsOf s m j ok) (hi : i = (j : Int)) (ho : w'.ownsRow w.heap.size 44 5 v m.length ((rows m).map I)) (hb : Below w.heap.size w w') : PsRet s w (.returned (.tuple #[v, I i, .bool ok])) w' := by
  subst hi; exact psret_mk h ho hb
theorem made2 {w3 : World} {n : Nat} {o : Obj} {T k : Nat} (h : n ≤ w3.heap.size) : ((w3.alloc o).alloc (.cells #[] T)).ownsRow n T k (.slice (some ⟨w3.heap.size + 1, 0, none⟩) 0 0) 0 [] := by
  have := World.ownsRow_made (base := n) (size := k) (e := T) (w3.alloc o) #[] 0 (by rw [World.size_alloc]; omega) (Nat.zero_le _) (by simp)
  rw [World.size_alloc] at this
  exact this
/-- The cases of a line. -/
theorem line_cases (l : ByteArray) : ¬ LineOk l ∨ (LineOk l ∧ fields l = []) ∨ ∃ f r, LineOk l ∧ fields l = f :: r ∧ 0 < f.size ∧ l.size ≤ 600 := by
  by_cases h : LineOk l
  · rcases hf : fields l with _ | ⟨f, r⟩
    · exact .inr (.inl ⟨h, rfl⟩)
    · refine .inr (.inr ⟨f, r, h, rfl, ?_, h.1⟩)
      have hm : f ∈ fields l := by rw [hf]; simp
      obtain ⟨p, hp, rfl⟩ := List.mem_map.1 hm
      have := spans_mem l p hp
      simp [cut]
      omega
  · exact .inl h
theorem skip_no {l : ByteArray} (h : ¬ LineOk l) : ¬ Skip l := fun hs => h hs.1
theorem skip_nil {l : ByteArray} (h : LineOk l) (hf : fields l = []) : Skip l := ⟨h, .inl hf⟩
theorem skip_yes {l f : ByteArray} {r : List ByteArray} (h : LineOk l) (hf : fields l = f :: r) (h0 : f.data[0]? = some 59) : Skip l := ⟨h, .inr ⟨f, r, hf, h0⟩⟩
theorem skip_not {l f : ByteArray} {r : List ByteArray} (hf : fields l = f :: r) (h0 : f.data[0]? ≠ some 59) : ¬ Skip l := fun ⟨_, hs⟩ => by
  rcases hs with hs | ⟨f', r', hs, h1⟩
  · rw [hf] at hs; cases hs
  · rw [hf] at hs; injection hs with hs _; subst hs; exact h0 h1
theorem isAct_line {l : ByteArray} {z : List Int} (h : ¬ LineOk l) : ¬ IsAct l z := fun hz => h hz.1
theorem ps_bad {s : ByteArray} {L1 L2 : List ByteArray} {l : ByteArray} {m : List (List Int)} (hs : s.size ≤ 20000) (hl : linesOf s = L1 ++ l :: L2) (hp : Proc L1 m) (hb : Bad l) : PsOf s [] (L1.length + 1) false := .inr (.inl ⟨hs, L1, l, L2, m, hl, hp, hb, rfl, rfl, rfl⟩)
theorem ps_end {s : ByteArray} {m : List (List Int)} (hs : s.size ≤ 20000) (hp : Proc (linesOf s) m) (hm : m.length ≤ 80) : PsOf s m (linesOf s).length true := .inr (.inr ⟨hs, m, hp, .inr ⟨hm, rfl, rfl, rfl⟩⟩)
theorem ps_many {s : ByteArray} {m : List (List Int)} (hs : s.size ≤ 20000) (hp : Proc (linesOf s) m) (hm : 80 < m.length) : PsOf s [] 0 false := .inr (.inr ⟨hs, m, hp, .inl ⟨hm, rfl, rfl, rfl⟩⟩)
theorem ps_long {s : ByteArray} (hs : 20000 < s.size) : PsOf s [] 0 false := .inl ⟨hs, rfl, rfl, rfl⟩
theorem byte0 {f : ByteArray} (hf : 0 < f.size) : (f.data[0]? = some 59) ↔ (f[0].toNat = 59) := by
  have hdat : f.data[0]? = some f[0] := by rw [Array.getElem?_eq_getElem hf]; rfl
  rw [hdat]
  constructor
  · intro e; injection e with e; rw [e]; rfl
  · intro e; congr 1; rw [← UInt8.ofNat_toNat (x := f[0]), e]; rfl

set_option maxHeartbeats 8000000 in
theorem spec_any (s : ByteArray) (w : World) (hs : s.size ≤ 1048576) :
    Calls Tryd.prog 36 #[.string s] w (PsRet s w) := by
  obtain ⟨i0, hi0, hz0, hz1, hz2⟩ := info_parts info_a
  by_cases h8 : 20000 < s.size
  · have Hj := Lib.hid (ps_long h8)
    go_enter Tryd.func36, Tryd.ntmps36
    go_wp2
    go_ret3
    exact psret_mk (j := 0) Hj.out (World.ownsRow_made _ _ _ (Nat.le_refl _) (Nat.zero_le _) rfl) (by go_grown)
  have h8' : s.size ≤ 20000 := by omega
  clear h8
  go_enter Tryd.func36, Tryd.ntmps36
  go_wp2
  go_loopw [5, 6, 7, 8] (fun v l b i wr => ∃ (k p : Nat) (L : List ByteArray) (m : List (List Int)), k ≤ s.size + 1 ∧ p ≤ k ∧ (k ≤ s.size ∨ p = k) ∧ L.length ≤ p ∧ i = .int .i64 k ∧ b = .int .i64 p ∧ l = .int .i64 L.length ∧ linesOf s = L ++ Rest s p ∧ (∀ j, p ≤ j → j < k → s.data[j]? ≠ some 10) ∧ Proc L m ∧ wr.ownsRow w.heap.size 44 5 v m.length ((rows m).map I) ∧ Below w.heap.size w wr) (fun _ _ _ i _ => s.size + 1 - (intOf i).toNat)
  case atStart => exact ⟨0, 0, [], [], Nat.zero_le _, Nat.le_refl _, .inl (Nat.zero_le _), Nat.le_refl _, rfl, rfl, rfl, rest_zero s, fun j _ h => by omega, rfl, World.ownsRow_made _ _ _ (Nat.le_refl _) (Nat.zero_le _) rfl, by go_grown⟩
  case round =>
    obtain ⟨k, p, L, m, hk, hpk, hkp, hLp, rfl, rfl, rfl, hls, hno, hpr, hown, hbel⟩ := hrel
    obtain ⟨Av, cv, rfl⟩ := own_form hown
    have hml := proc_len hpr
    have Hls := Lib.hid hls
    have Hno := Lib.hid hno
    have Hpr := Lib.hid hpr
    have Hown := Lib.hid hown
    have Hbel := Lib.hid hbel
    have hsz := hbel.size
    clear hls hno hpr hown hbel
    by_cases hend : k = s.size + 1
    · subst hend
      obtain rfl : p = s.size + 1 := by omega
      have hR : Rest s (s.size + 1) = [] := by unfold Rest; rw [if_neg (by omega)]
      have Hall := Lib.hid (show linesOf s = L by have := Hls.out; rw [hR, List.append_nil] at this; exact this)
      have Hpa := Lib.hid (show Proc (linesOf s) m by rw [Hall.out]; exact Hpr.out)
      clear hkp hR
      by_cases h80 : 80 < m.length
      · have Hj := Lib.hid (ps_many h8' Hpa.out h80)
        have h80' : (80 : Int) < (m.length : Int) := by omega
        go_wp2
        go_ret3
        exact psret_mk (j := 0) Hj.out (World.ownsRow_made _ _ _ Hbel.out.size (Nat.zero_le _) rfl) (Hbel.out.alloc hsz _)
      · have Hj := Lib.hid (ps_end h8' Hpa.out (by omega))
        have Hll := Lib.hid (show (L.length : Int) = ((linesOf s).length : Int) by rw [Hall.out])
        go_wp2
        go_ret3
        exact psret_mk' Hj.out Hll.out Hown.out Hbel.out
    · have hk' : k ≤ s.size := by omega
      have Hes := Lib.hid (show (s.extract p k).size ≤ maxLen by rw [ByteArray.size_extract]; unfold maxLen; omega)
      clear hk hend hkp
      by_cases hlt : k < s.size
      · have hdat : s.data[k]? = some s[k] := by rw [Array.getElem?_eq_getElem hlt]; rfl
        have Hdat := Lib.hid hdat
        clear hdat
        by_cases h10 : s[k].toNat = 10
        · have hb10 : ((s[k].toNat : Int) != 10) = false := by rw [h10]; rfl
          have H10 := Lib.hid (show s.data[k]? = some 10 by rw [Hdat.out]; congr 1; rw [← UInt8.ofNat_toNat (x := s[k]), h10]; rfl)
          have Hl := Lib.hid (show linesOf s = L ++ s.extract p k :: Rest s (k + 1) by rw [Hls.out, rest_line hpk hlt H10.out Hno.out])
          clear h10
          rcases line_cases (s.extract p k) with hL | ⟨hL, hf⟩ | ⟨f0, fr, hL, hf, hf0, hl6⟩
          · have Hns := Lib.hid (skip_no hL)
            have HL := Lib.hid hL
            clear hL
            go_wp2_with fail
            refine (SpW.spec_any (s.extract p k) _ Hes.out).mono ?_
            rintro e w2 (⟨hL2, _⟩ | ⟨_, A2, c2, rfl, hb2⟩)
            · exact absurd hL2 HL.out
            have Hown2 := Lib.hid (own_below Hown.out hb2)
            have Hbel2 := Lib.hid (Hbel.out.trans (hb2.mono hsz))
            clear hb2 Hown Hbel
            go_wp2_with fail
            refine (PaS.spec_any (s.extract p k) _ Hes.out).mono ?_
            rintro e w3 ⟨hr, hb3⟩
            have Hown3 := Lib.hid (own_below Hown2.out hb3)
            have Hbel3 := Lib.hid (Hbel2.out.trans (hb3.mono Hbel2.out.size))
            have hsz3 := Hbel3.out.size
            clear hb3 Hown2 Hbel2
            rcases hr with ⟨z, hz, rfl⟩ | ⟨hz, rfl⟩
            · have Hz := Lib.hid hz
              clear hz
              go_wp2_with (at_builtin; refine wpList_append_own _ rfl (.tmp 70) (.tmp 72) 52 rfl w.heap.size 44 i0 _ 5 40 Tryd.underlying52 hi0 hz0 hz1 hz2 rfl (by omega) _ _ _ rfl ((Hown3.out.alloc _).alloc _) ⟨w3.heap.size + 1, 0, none⟩ 1 1 [I (gI z 0), I (gI z 1), I (gI z 2), I (gI z 3), I (gI z 4)] rfl rfl ?a1 ?a2 ?a3 ?a4 ?a5 ?_)
              case a1 => have := cells_new (w3.alloc (.cells #[I (gI z 0), I (gI z 1), I (gI z 2), I (gI z 3), I (gI z 4)] 44)) #[I (gI z 0), I (gI z 1), I (gI z 2), I (gI z 3), I (gI z 4)] 44; rw [World.size_alloc] at this; exact this
              case a2 => intro u hu; simp at hu; rcases hu with rfl | rfl | rfl | rfl | rfl <;> rfl
              case a3 => unfold maxLen; omega
              case a4 => omega
              case a5 => simp; omega
              intro v4 w4 hown4 hgr4 _
              have Hown4 : Hid (w4.ownsRow w.heap.size 44 5 v4 (m ++ [z]).length ((rows (m ++ [z])).map I)) := by rw [rows_snoc, List.map_append, List.length_append]; exact hown4
              have Hbel4 := Lib.hid (below_own ((Hbel3.out.alloc hsz3 _).alloc (by simp; omega) _) ((Hown3.out.alloc _).alloc _) hgr4 (Nat.le_refl _))
              clear hown4 hgr4 Hown3 Hbel3
              go_wp2
              go_roundw
              case rel => exact ⟨k + 1, k + 1, L ++ [s.extract p k], m ++ [z], by omega, Nat.le_refl _, .inr rfl, by rw [List.length_append]; (try simp); (try omega), by go_num, by go_num, by rw [List.length_append]; go_num, by rw [Hl.out]; simp, fun j h1 h2 => by omega, proc_act Hpr.out Hns.out Hz.out, Hown4.out, Hbel4.out⟩
              case measure => simp [intOf] <;> omega
            · have HB := Lib.hid (show Bad (s.extract p k) from ⟨Hns.out, hz⟩)
              clear hz
              go_wp2
              go_ret3
              exact psret_mk' (ps_bad h8' Hl.out Hpr.out HB.out) (by simp) (made2 hsz3) ((Hbel3.out.alloc hsz3 _).alloc (by simp; omega) _)
          · have Hsk := Lib.hid (skip_nil hL hf)
            have HL := Lib.hid hL
            have Hf := Lib.hid hf
            clear hL hf
            go_wp2_with fail
            refine (SpW.spec_any (s.extract p k) _ Hes.out).mono ?_
            rintro e w2 (⟨_, A2, c2, rfl, ho2, hb2⟩ | ⟨hL2, _⟩)
            rotate_left
            · exact absurd HL.out hL2
            rw [Hf.out] at ho2 ⊢
            have Hown2 := Lib.hid (own_below Hown.out hb2)
            have Hbel2 := Lib.hid (Hbel.out.trans (hb2.mono hsz))
            clear hb2 ho2 Hown Hbel
            go_wp2
            go_roundw
            case rel => exact ⟨k + 1, k + 1, L ++ [s.extract p k], m, by omega, Nat.le_refl _, .inr rfl, by rw [List.length_append]; (try simp); (try omega), by go_num, by go_num, by rw [List.length_append]; go_num, by rw [Hl.out]; simp, fun j h1 h2 => by omega, proc_skip Hpr.out Hsk.out, Hown2.out, Hbel2.out⟩
            case measure => simp [intOf] <;> omega
          · have HL := Lib.hid hL
            have Hf := Lib.hid hf
            have hnf : ((((f0 :: fr).length : Nat) : Int) == 0) = false := beq_eq_false_iff_ne.2 (by simp; omega)
            have hnf1 : ((fr.length : Int) + 1 == 0) = false := beq_eq_false_iff_ne.2 (by omega)
            have hpos : 0 < (f0 :: fr).length := by simp
            clear hL hf
            go_wp2_with fail
            refine (SpW.spec_any (s.extract p k) _ Hes.out).mono ?_
            rintro e w2 (⟨_, A2, c2, rfl, ho2, hb2⟩ | ⟨hL2, _⟩)
            rotate_left
            · exact absurd HL.out hL2
            rw [Hf.out] at ho2 ⊢
            obtain ⟨gf, rfl, hgf, hcf⟩ := PaS.own_cells ho2 hpos
            have q0 := hcf 0 (.string f0) rfl
            have Hown2 := Lib.hid (own_below Hown.out hb2)
            have Hbel2 := Lib.hid (Hbel.out.trans (hb2.mono hsz))
            obtain ⟨nf, hnfe, hnfp⟩ : ∃ nf, (f0 :: fr).length = nf ∧ 0 < nf := ⟨_, rfl, hpos⟩
            rw [hnfe] at hnf ⊢
            have hnfi : (0 : Int) < (nf : Int) := by omega
            clear hb2 ho2 Hown Hbel hcf hpos hnf1 hnfe
            by_cases h59 : f0[0].toNat = 59
            · have hb59 : ((f0[0].toNat : Int) == 59) = true := by rw [h59]; rfl
              have Hsk := Lib.hid (skip_yes HL.out Hf.out ((byte0 hf0).2 h59))
              clear h59
              go_wp2
              go_roundw
              case rel => exact ⟨k + 1, k + 1, L ++ [s.extract p k], m, by omega, Nat.le_refl _, .inr rfl, by rw [List.length_append]; (try simp); (try omega), by go_num, by go_num, by rw [List.length_append]; go_num, by rw [Hl.out]; simp, fun j h1 h2 => by omega, proc_skip Hpr.out Hsk.out, Hown2.out, Hbel2.out⟩
              case measure => simp [intOf] <;> omega
            · have hb59 : ((f0[0].toNat : Int) == 59) = false := beq_eq_false_iff_ne.2 (by omega)
              have Hns := Lib.hid (skip_not Hf.out (fun h => h59 ((byte0 hf0).1 h)))
              clear h59
              go_wp2_with fail
              refine (PaS.spec_any (s.extract p k) _ Hes.out).mono ?_
              rintro e w3 ⟨hr, hb3⟩
              have Hown3 := Lib.hid (own_below Hown2.out hb3)
              have Hbel3 := Lib.hid (Hbel2.out.trans (hb3.mono Hbel2.out.size))
              have hsz3 := Hbel3.out.size
              clear hb3 Hown2 Hbel2
              rcases hr with ⟨z, hz, rfl⟩ | ⟨hz, rfl⟩
              · have Hz := Lib.hid hz
                clear hz
                go_wp2_with (at_builtin; refine wpList_append_own _ rfl (.tmp 70) (.tmp 72) 52 rfl w.heap.size 44 i0 _ 5 40 Tryd.underlying52 hi0 hz0 hz1 hz2 rfl (by omega) _ _ _ rfl ((Hown3.out.alloc _).alloc _) ⟨w3.heap.size + 1, 0, none⟩ 1 1 [I (gI z 0), I (gI z 1), I (gI z 2), I (gI z 3), I (gI z 4)] rfl rfl ?b1 ?b2 ?b3 ?b4 ?b5 ?_)
                case b1 => have := cells_new (w3.alloc (.cells #[I (gI z 0), I (gI z 1), I (gI z 2), I (gI z 3), I (gI z 4)] 44)) #[I (gI z 0), I (gI z 1), I (gI z 2), I (gI z 3), I (gI z 4)] 44; rw [World.size_alloc] at this; exact this
                case b2 => intro u hu; simp at hu; rcases hu with rfl | rfl | rfl | rfl | rfl <;> rfl
                case b3 => unfold maxLen; omega
                case b4 => omega
                case b5 => simp; omega
                intro v4 w4 hown4 hgr4 _
                have Hown4 : Hid (w4.ownsRow w.heap.size 44 5 v4 (m ++ [z]).length ((rows (m ++ [z])).map I)) := by rw [rows_snoc, List.map_append, List.length_append]; exact hown4
                have Hbel4 := Lib.hid (below_own ((Hbel3.out.alloc hsz3 _).alloc (by simp; omega) _) ((Hown3.out.alloc _).alloc _) hgr4 (Nat.le_refl _))
                clear hown4 hgr4 Hown3 Hbel3
                go_wp2
                go_roundw
                case rel => exact ⟨k + 1, k + 1, L ++ [s.extract p k], m ++ [z], by omega, Nat.le_refl _, .inr rfl, by rw [List.length_append]; (try simp); (try omega), by go_num, by go_num, by rw [List.length_append]; go_num, by rw [Hl.out]; simp, fun j h1 h2 => by omega, proc_act Hpr.out Hns.out Hz.out, Hown4.out, Hbel4.out⟩
                case measure => simp [intOf] <;> omega
              · have HB := Lib.hid (show Bad (s.extract p k) from ⟨Hns.out, hz⟩)
                clear hz
                go_wp2
                go_ret3
                exact psret_mk' (ps_bad h8' Hl.out Hpr.out HB.out) (by simp) (made2 hsz3) ((Hbel3.out.alloc hsz3 _).alloc (by simp; omega) _)
        · have hb10 : ((s[k].toNat : Int) != 10) = true := by rw [bne_iff_ne]; omega
          have Hne := Lib.hid (show s.data[k]? ≠ some 10 by rw [Hdat.out]; intro e; injection e with e; exact h10 (by rw [e]; rfl))
          clear h10
          go_wp2
          go_roundw
          case rel => exact ⟨k + 1, p, L, m, by omega, by omega, .inl (by omega), hLp, by go_num, rfl, rfl, Hls.out, fun j h1 h2 => by
            rcases Nat.lt_or_ge j k with h | h
            · exact Hno.out j h1 h
            · obtain rfl : j = k := by omega
              exact Hne.out, Hpr.out, Hown.out, Hbel.out⟩
          case measure => simp [intOf] <;> omega
      · obtain rfl : k = s.size := by omega
        have Hl := Lib.hid (show linesOf s = L ++ s.extract p s.size :: Rest s (s.size + 1) by have := rest_last hpk Hno.out; rw [Hls.out, this.1, this.2])
        clear hlt
        rcases line_cases (s.extract p s.size) with hL | ⟨hL, hf⟩ | ⟨f0, fr, hL, hf, hf0, hl6⟩
        · have Hns := Lib.hid (skip_no hL)
          have HL := Lib.hid hL
          clear hL
          go_wp2_with fail
          refine (SpW.spec_any (s.extract p s.size) _ Hes.out).mono ?_
          rintro e w2 (⟨hL2, _⟩ | ⟨_, A2, c2, rfl, hb2⟩)
          · exact absurd hL2 HL.out
          have Hown2 := Lib.hid (own_below Hown.out hb2)
          have Hbel2 := Lib.hid (Hbel.out.trans (hb2.mono hsz))
          clear hb2 Hown Hbel
          go_wp2_with fail
          refine (PaS.spec_any (s.extract p s.size) _ Hes.out).mono ?_
          rintro e w3 ⟨hr, hb3⟩
          have Hown3 := Lib.hid (own_below Hown2.out hb3)
          have Hbel3 := Lib.hid (Hbel2.out.trans (hb3.mono Hbel2.out.size))
          have hsz3 := Hbel3.out.size
          clear hb3 Hown2 Hbel2
          rcases hr with ⟨z, hz, rfl⟩ | ⟨hz, rfl⟩
          · have Hz := Lib.hid hz
            clear hz
            go_wp2_with (at_builtin; refine wpList_append_own _ rfl (.tmp 70) (.tmp 72) 52 rfl w.heap.size 44 i0 _ 5 40 Tryd.underlying52 hi0 hz0 hz1 hz2 rfl (by omega) _ _ _ rfl ((Hown3.out.alloc _).alloc _) ⟨w3.heap.size + 1, 0, none⟩ 1 1 [I (gI z 0), I (gI z 1), I (gI z 2), I (gI z 3), I (gI z 4)] rfl rfl ?a1 ?a2 ?a3 ?a4 ?a5 ?_)
            case a1 => have := cells_new (w3.alloc (.cells #[I (gI z 0), I (gI z 1), I (gI z 2), I (gI z 3), I (gI z 4)] 44)) #[I (gI z 0), I (gI z 1), I (gI z 2), I (gI z 3), I (gI z 4)] 44; rw [World.size_alloc] at this; exact this
            case a2 => intro u hu; simp at hu; rcases hu with rfl | rfl | rfl | rfl | rfl <;> rfl
            case a3 => unfold maxLen; omega
            case a4 => omega
            case a5 => simp; omega
            intro v4 w4 hown4 hgr4 _
            have Hown4 : Hid (w4.ownsRow w.heap.size 44 5 v4 (m ++ [z]).length ((rows (m ++ [z])).map I)) := by rw [rows_snoc, List.map_append, List.length_append]; exact hown4
            have Hbel4 := Lib.hid (below_own ((Hbel3.out.alloc hsz3 _).alloc (by simp; omega) _) ((Hown3.out.alloc _).alloc _) hgr4 (Nat.le_refl _))
            clear hown4 hgr4 Hown3 Hbel3
            go_wp2
            go_roundw
            case rel => exact ⟨s.size + 1, s.size + 1, L ++ [s.extract p s.size], m ++ [z], by omega, Nat.le_refl _, .inr rfl, by rw [List.length_append]; (try simp); (try omega), by go_num, by go_num, by rw [List.length_append]; go_num, by rw [Hl.out]; simp, fun j h1 h2 => by omega, proc_act Hpr.out Hns.out Hz.out, Hown4.out, Hbel4.out⟩
            case measure => simp [intOf] <;> omega
          · have HB := Lib.hid (show Bad (s.extract p s.size) from ⟨Hns.out, hz⟩)
            clear hz
            go_wp2
            go_ret3
            exact psret_mk' (ps_bad h8' Hl.out Hpr.out HB.out) (by simp) (made2 hsz3) ((Hbel3.out.alloc hsz3 _).alloc (by simp; omega) _)
        · have Hsk := Lib.hid (skip_nil hL hf)
          have HL := Lib.hid hL
          have Hf := Lib.hid hf
          clear hL hf
          go_wp2_with fail
          refine (SpW.spec_any (s.extract p s.size) _ Hes.out).mono ?_
          rintro e w2 (⟨_, A2, c2, rfl, ho2, hb2⟩ | ⟨hL2, _⟩)
          rotate_left
          · exact absurd HL.out hL2
          rw [Hf.out] at ho2 ⊢
          have Hown2 := Lib.hid (own_below Hown.out hb2)
          have Hbel2 := Lib.hid (Hbel.out.trans (hb2.mono hsz))
          clear hb2 ho2 Hown Hbel
          go_wp2
          go_roundw
          case rel => exact ⟨s.size + 1, s.size + 1, L ++ [s.extract p s.size], m, by omega, Nat.le_refl _, .inr rfl, by rw [List.length_append]; (try simp); (try omega), by go_num, by go_num, by rw [List.length_append]; go_num, by rw [Hl.out]; simp, fun j h1 h2 => by omega, proc_skip Hpr.out Hsk.out, Hown2.out, Hbel2.out⟩
          case measure => simp [intOf] <;> omega
        · have HL := Lib.hid hL
          have Hf := Lib.hid hf
          have hnf : ((((f0 :: fr).length : Nat) : Int) == 0) = false := beq_eq_false_iff_ne.2 (by simp; omega)
          have hnf1 : ((fr.length : Int) + 1 == 0) = false := beq_eq_false_iff_ne.2 (by omega)
          have hpos : 0 < (f0 :: fr).length := by simp
          clear hL hf
          go_wp2_with fail
          refine (SpW.spec_any (s.extract p s.size) _ Hes.out).mono ?_
          rintro e w2 (⟨_, A2, c2, rfl, ho2, hb2⟩ | ⟨hL2, _⟩)
          rotate_left
          · exact absurd HL.out hL2
          rw [Hf.out] at ho2 ⊢
          obtain ⟨gf, rfl, hgf, hcf⟩ := PaS.own_cells ho2 hpos
          have q0 := hcf 0 (.string f0) rfl
          have Hown2 := Lib.hid (own_below Hown.out hb2)
          have Hbel2 := Lib.hid (Hbel.out.trans (hb2.mono hsz))
          obtain ⟨nf, hnfe, hnfp⟩ : ∃ nf, (f0 :: fr).length = nf ∧ 0 < nf := ⟨_, rfl, hpos⟩
          rw [hnfe] at hnf ⊢
          have hnfi : (0 : Int) < (nf : Int) := by omega
          clear hb2 ho2 Hown Hbel hcf hpos hnf1 hnfe
          by_cases h59 : f0[0].toNat = 59
          · have hb59 : ((f0[0].toNat : Int) == 59) = true := by rw [h59]; rfl
            have Hsk := Lib.hid (skip_yes HL.out Hf.out ((byte0 hf0).2 h59))
            clear h59
            go_wp2
            go_roundw
            case rel => exact ⟨s.size + 1, s.size + 1, L ++ [s.extract p s.size], m, by omega, Nat.le_refl _, .inr rfl, by rw [List.length_append]; (try simp); (try omega), by go_num, by go_num, by rw [List.length_append]; go_num, by rw [Hl.out]; simp, fun j h1 h2 => by omega, proc_skip Hpr.out Hsk.out, Hown2.out, Hbel2.out⟩
            case measure => simp [intOf] <;> omega
          · have hb59 : ((f0[0].toNat : Int) == 59) = false := beq_eq_false_iff_ne.2 (by omega)
            have Hns := Lib.hid (skip_not Hf.out (fun h => h59 ((byte0 hf0).1 h)))
            clear h59
            go_wp2_with fail
            refine (PaS.spec_any (s.extract p s.size) _ Hes.out).mono ?_
            rintro e w3 ⟨hr, hb3⟩
            have Hown3 := Lib.hid (own_below Hown2.out hb3)
            have Hbel3 := Lib.hid (Hbel2.out.trans (hb3.mono Hbel2.out.size))
            have hsz3 := Hbel3.out.size
            clear hb3 Hown2 Hbel2
            rcases hr with ⟨z, hz, rfl⟩ | ⟨hz, rfl⟩
            · have Hz := Lib.hid hz
              clear hz
              go_wp2_with (at_builtin; refine wpList_append_own _ rfl (.tmp 70) (.tmp 72) 52 rfl w.heap.size 44 i0 _ 5 40 Tryd.underlying52 hi0 hz0 hz1 hz2 rfl (by omega) _ _ _ rfl ((Hown3.out.alloc _).alloc _) ⟨w3.heap.size + 1, 0, none⟩ 1 1 [I (gI z 0), I (gI z 1), I (gI z 2), I (gI z 3), I (gI z 4)] rfl rfl ?b1 ?b2 ?b3 ?b4 ?b5 ?_)
              case b1 => have := cells_new (w3.alloc (.cells #[I (gI z 0), I (gI z 1), I (gI z 2), I (gI z 3), I (gI z 4)] 44)) #[I (gI z 0), I (gI z 1), I (gI z 2), I (gI z 3), I (gI z 4)] 44; rw [World.size_alloc] at this; exact this
              case b2 => intro u hu; simp at hu; rcases hu with rfl | rfl | rfl | rfl | rfl <;> rfl
              case b3 => unfold maxLen; omega
              case b4 => omega
              case b5 => simp; omega
              intro v4 w4 hown4 hgr4 _
              have Hown4 : Hid (w4.ownsRow w.heap.size 44 5 v4 (m ++ [z]).length ((rows (m ++ [z])).map I)) := by rw [rows_snoc, List.map_append, List.length_append]; exact hown4
              have Hbel4 := Lib.hid (below_own ((Hbel3.out.alloc hsz3 _).alloc (by simp; omega) _) ((Hown3.out.alloc _).alloc _) hgr4 (Nat.le_refl _))
              clear hown4 hgr4 Hown3 Hbel3
              go_wp2
              go_roundw
              case rel => exact ⟨s.size + 1, s.size + 1, L ++ [s.extract p s.size], m ++ [z], by omega, Nat.le_refl _, .inr rfl, by rw [List.length_append]; (try simp); (try omega), by go_num, by go_num, by rw [List.length_append]; go_num, by rw [Hl.out]; simp, fun j h1 h2 => by omega, proc_act Hpr.out Hns.out Hz.out, Hown4.out, Hbel4.out⟩
              case measure => simp [intOf] <;> omega
            · have HB := Lib.hid (show Bad (s.extract p s.size) from ⟨Hns.out, hz⟩)
              clear hz
              go_wp2
              go_ret3
              exact psret_mk' (ps_bad h8' Hl.out Hpr.out HB.out) (by simp) (made2 hsz3) ((Hbel3.out.alloc hsz3 _).alloc (by simp; omega) _)
end Go.Proofs.YtebiefhfhjgmaaaDoor.Ps
