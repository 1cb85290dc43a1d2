/- SplitFields of both sides: the fields of a line, for every string. -/
import Derived.Test.YtebiefhfhjgmaaaDoorMem2
import Derived.Test.YtebiefhfhjgmaaaDoorSplit
import Derived.WalkLawsBesides
namespace Go.Proofs.YtebiefhfhjgmaaaDoor.SpW
set_option maxRecDepth 100000
open Go.RowKit Mm Sp

theorem info_s : (Tryd.prog.info? 9).map (fun i => (i.zero, i.size, i.bytes)) = some (some (.string ByteArray.empty), 1, 16) := by kernel_rfl
abbrev St (s : ByteArray) (p : Nat × Nat) : Value := .string (cut s p)
/-- What SplitFields hands back. -/
def SYes (s : ByteArray) (w : World) (e : Ending) (w' : World) : Prop := ∃ A c, e = .returned (.tuple #[.slice A (fields s).length c, .bool true]) ∧ w'.ownsRow w.heap.size 9 1 (.slice A (fields s).length c) (fields s).length ((fields s).map Value.string) ∧ Below w.heap.size w w'
def SNo (w : World) (e : Ending) (w' : World) : Prop := ∃ A c, e = .returned (.tuple #[.slice A 0 c, .bool false]) ∧ Below w.heap.size w w'
def SRet (s : ByteArray) (w : World) (e : Ending) (w' : World) : Prop := (LineOk s ∧ SYes s w e w') ∨ (¬ LineOk s ∧ SNo w e w')
theorem sret_no {s : ByteArray} {w w' : World} {A : Option Addr} {c : Nat} (h : ¬ LineOk s) (hb : Below w.heap.size w w') : SRet s w (.returned (.tuple #[.slice A 0 c, .bool false])) w' := .inr ⟨h, A, c, rfl, hb⟩
theorem sret_yes {s : ByteArray} {w w' : World} {v : Value} (h : LineOk s) (ho : w'.ownsRow w.heap.size 9 1 v (spans s).length ((spans s).map (St s))) (hb : Below w.heap.size w w') : SRet s w (.returned (.tuple #[v, .bool true])) w' := by
  obtain ⟨A, c, rfl⟩ := own_form ho
  have e : (fields s).length = (spans s).length := by simp [fields]
  refine .inl ⟨h, A, c, by rw [e], ?_, hb⟩
  rw [e]
  have e2 : (fields s).map Value.string = (spans s).map (St s) := by simp [fields]
  rw [e2]
  exact ho

set_option maxHeartbeats 1000000 in
theorem spec_any (s : ByteArray) (w : World) (hs : s.size ≤ maxLen) :
    Calls Tryd.prog 66 #[.string s] w (SRet s w) := by
  unfold maxLen at hs
  obtain ⟨i0, hi0, hz0, hz1, hz2⟩ := info_parts info_s
  by_cases h600 : 600 < s.size
  · have hno : ¬ LineOk s := fun h => by have := h.1; omega
    have Hno := Lib.hid hno
    clear hno
    go_enter Tryd.func66, Tryd.ntmps66
    go_wp2
    go_ret2
    exact sret_no Hno.out (by go_grown)
  go_enter Tryd.func66, Tryd.ntmps66
  go_wp2
  go_loopw [4, 5, 6] (fun v b i wr => ∃ (k : Nat) (l : List (Nat × Nat)) (p : Nat), k ≤ s.size + 1 ∧ p ≤ k ∧ l.length ≤ k ∧ i = .int .i64 k ∧ b = .int .i64 p ∧ sp s k = (l, p) ∧ OkTo s k ∧ wr.ownsRow w.heap.size 9 1 v l.length (l.map (St s)) ∧ Below w.heap.size w wr) (fun _ _ i _ => s.size + 1 - (intOf i).toNat)
  case atStart => exact ⟨0, [], 0, by omega, by omega, by simp, rfl, rfl, rfl, fun j c hj => by omega, World.ownsRow_made _ _ _ (Nat.le_refl _) (Nat.zero_le _) rfl, (Below.refl _ _).alloc (Nat.le_refl _) _⟩
  case round =>
    obtain ⟨k, l, p, hk, hpk, hll, rfl, rfl, hsp, hok, hown, hbel⟩ := hrel
    obtain ⟨A, c, rfl⟩ := own_form hown
    have Hsp := Lib.hid hsp
    have Hok := Lib.hid hok
    have Hown := Lib.hid hown
    have Hbel := Lib.hid hbel
    have hsz := hbel.size
    clear hsp hok hown hbel
    by_cases hend : k = s.size + 1
    · subst hend
      have hl : l = spans s := by have := Hsp.out; unfold spans; rw [this]
      have HOK : Hid (OkTo s s.size) := fun j c hj hc => Hok.out j c (by omega) hc
      subst hl
      by_cases h24 : 24 < (spans s).length
      · have Hno : Hid (¬ LineOk s) := fun h => by have := h.2.2; omega
        have hlen : (24 : Int) < ((spans s).length : Int) := by omega
        go_wp2
        go_ret2
        exact sret_no Hno.out (Hbel.out.alloc hsz _)
      · have HY : Hid (LineOk s) := ⟨by omega, HOK.out, by omega⟩
        go_wp2
        go_ret2
        exact sret_yes HY.out Hown.out Hbel.out
    · have hk' : k ≤ s.size := by omega
      clear hk hend
      by_cases hlt : k < s.size
      · have hdat : s.data[k]? = some s[k] := by rw [Array.getElem?_eq_getElem hlt]; rfl
        by_cases hd1 : s[k].toNat < 32
        · have Hno : Hid (¬ LineOk s) := okTo_bad hlt (fun h => by have := h.1; have : s.data[k].toNat < 32 := hd1; omega)
          have hd1' : (s[k].toNat : Int) < 32 := by omega
          clear hdat
          go_wp2
          go_ret2
          exact sret_no Hno.out (Hbel.out.alloc hsz _)
        have hd1' : (32 : Int) ≤ (s[k].toNat : Int) := by omega
        by_cases hd2 : 126 < s[k].toNat
        · have Hno : Hid (¬ LineOk s) := okTo_bad hlt (fun h => by have := h.2; have : 126 < s.data[k].toNat := hd2; omega)
          have hd2' : (126 : Int) < (s[k].toNat : Int) := by omega
          clear hdat
          go_wp2
          go_ret2
          exact sret_no Hno.out (Hbel.out.alloc hsz _)
        have hd2' : (s[k].toNat : Int) ≤ 126 := by omega
        have HOK : Hid (OkTo s (k + 1)) := okTo_step Hok.out hlt (by have : s.data[k].toNat = s[k].toNat := rfl; omega) (by have : s.data[k].toNat = s[k].toNat := rfl; omega)
        by_cases h32 : s[k].toNat = 32
        · have hb : ((s[k].toNat : Int) != 32) = false := by rw [h32]; rfl
          have hc : Hid (s.size ≤ k ∨ s.data[k]? = some 32) := .inr (by rw [hdat]; congr 1; rw [← UInt8.ofNat_toNat (x := s[k]), h32]; rfl)
          clear hdat h32 hd1 hd2
          by_cases hpl : p < k
          · go_wp2_with (at_builtin; refine wpList_append_own _ rfl (.tmp 48) (.tmp 53) 76 rfl w.heap.size 9 i0 _ 1 16 Tryd.underlying76 hi0 hz0 hz1 hz2 rfl (by omega) _ _ _ rfl (Hown.out.alloc _) ⟨wr.heap.size, 0, none⟩ 1 1 [St s (p, k)] rfl rfl ?c1 ?c2 ?c3 ?c4 ?c5 ?_)
            case c1 => exact cells_new wr #[St s (p, k)] _
            case c2 => intro u hu; simp at hu; subst hu; rfl
            case c3 => unfold maxLen; omega
            case c4 => omega
            case c5 => simp; omega
            intro v2 w2 hown2 hgr2 _
            have Hown2 := Lib.hid hown2
            have Hbel2 := Lib.hid (below_own (Hbel.out.alloc hsz _) (Hown.out.alloc _) hgr2 (Nat.le_refl _))
            clear hown2 hgr2 Hown Hbel
            go_wp2
            go_roundw
            case rel =>
              have hsp := Hsp.out
              have e := sp_cut hc.out (by rw [hsp]; exact hpl)
              rw [hsp] at e
              exact ⟨k + 1, l ++ [(p, k)], k + 1, by omega, by omega, by simp; omega, by go_num, by go_num, e, HOK.out, by rw [List.length_append, List.map_append]; exact Hown2.out, Hbel2.out⟩
            case measure => simp [intOf]; omega
          · go_wp2
            go_roundw
            case rel =>
              have hsp := Hsp.out
              have e := sp_none hc.out (by rw [hsp]; exact hpl)
              rw [hsp] at e
              exact ⟨k + 1, l, k + 1, by omega, by omega, by omega, by go_num, by go_num, e, HOK.out, Hown.out, Hbel.out⟩
            case measure => simp [intOf]; omega
        · have hb : ((s[k].toNat : Int) != 32) = true := by rw [bne_iff_ne]; omega
          have hc : Hid (s.data[k]? ≠ some 32) := by
            show _ ≠ _
            rw [hdat]; intro e; injection e with e; exact h32 (by rw [e]; rfl)
          clear hdat h32 hd1 hd2
          go_wp2
          go_roundw
          case rel =>
            have e := sp_skip hlt hc.out
            rw [Hsp.out] at e
            exact ⟨k + 1, l, p, by omega, by omega, by omega, by go_num, rfl, e, HOK.out, Hown.out, Hbel.out⟩
          case measure => simp [intOf]; omega
      · obtain rfl : k = s.size := by omega
        have hc : Hid (s.size ≤ s.size ∨ s.data[s.size]? = some 32) := .inl (Nat.le_refl _)
        have HOK : Hid (OkTo s (s.size + 1)) := fun j c hj hc => by
          by_cases e : j < s.size
          · exact Hok.out j c e hc
          · rw [Array.getElem?_eq_none (by show s.size ≤ j; omega)] at hc; cases hc
        by_cases hpl : p < s.size
        · go_wp2_with (at_builtin; refine wpList_append_own _ rfl (.tmp 48) (.tmp 53) 76 rfl w.heap.size 9 i0 _ 1 16 Tryd.underlying76 hi0 hz0 hz1 hz2 rfl (by omega) _ _ _ rfl (Hown.out.alloc _) ⟨wr.heap.size, 0, none⟩ 1 1 [St s (p, s.size)] rfl rfl ?c1 ?c2 ?c3 ?c4 ?c5 ?_)
          case c1 => exact cells_new wr #[St s (p, s.size)] _
          case c2 => intro u hu; simp at hu; subst hu; rfl
          case c3 => unfold maxLen; omega
          case c4 => omega
          case c5 => simp; omega
          intro v2 w2 hown2 hgr2 _
          have Hown2 := Lib.hid hown2
          have Hbel2 := Lib.hid (below_own (Hbel.out.alloc hsz _) (Hown.out.alloc _) hgr2 (Nat.le_refl _))
          clear hown2 hgr2 Hown Hbel
          go_wp2
          go_roundw
          case rel =>
            have hsp := Hsp.out
            have e := sp_cut hc.out (by rw [hsp]; exact hpl)
            rw [hsp] at e
            exact ⟨s.size + 1, l ++ [(p, s.size)], s.size + 1, by omega, by omega, by simp; omega, by go_num, by go_num, e, HOK.out, by rw [List.length_append, List.map_append]; exact Hown2.out, Hbel2.out⟩
          case measure => simp [intOf]
        · go_wp2
          go_roundw
          case rel =>
            have hsp := Hsp.out
            have e := sp_none hc.out (by rw [hsp]; exact hpl)
            rw [hsp] at e
            exact ⟨s.size + 1, l, s.size + 1, by omega, by omega, by omega, by go_num, by go_num, e, HOK.out, Hown.out, Hbel.out⟩
          case measure => simp [intOf]

set_option maxHeartbeats 1000000 in
theorem impl_any (s : ByteArray) (w : World) (hs : s.size ≤ maxLen) :
    Calls Tryd.prog 69 #[.string s] w (SRet s w) := by
  unfold maxLen at hs
  obtain ⟨i0, hi0, hz0, hz1, hz2⟩ := info_parts info_s
  by_cases h600 : 600 < s.size
  · have hno : ¬ LineOk s := fun h => by have := h.1; omega
    have Hno := Lib.hid hno
    clear hno
    go_enter Tryd.func69, Tryd.ntmps69
    go_wp2
    go_ret2
    exact sret_no Hno.out (Below.refl _ _)
  go_enter Tryd.func69, Tryd.ntmps69
  go_wp2
  go_loop [4] (fun i => ∃ k : Nat, k ≤ s.size ∧ i = .int .i64 k ∧ OkTo s k) (fun i => s.size - (intOf i).toNat)
  case atStart => exact ⟨0, by omega, rfl, fun j c hj => by omega⟩
  case round =>
    obtain ⟨k, hk, rfl, hok⟩ := hrel
    have Hok := Lib.hid hok
    clear hok
    by_cases hlt : k < s.size
    · have hdat : s.data[k]? = some s[k] := by rw [Array.getElem?_eq_getElem hlt]; rfl
      by_cases hd1 : s[k].toNat < 32
      · have Hno : Hid (¬ LineOk s) := okTo_bad hlt (fun h => by have := h.1; have : s.data[k].toNat < 32 := hd1; omega)
        have hd1' : (s[k].toNat : Int) < 32 := by omega
        clear hdat
        go_wp2
        go_ret2
        exact sret_no Hno.out (Below.refl _ _)
      have hd1' : (32 : Int) ≤ (s[k].toNat : Int) := by omega
      by_cases hd2 : 126 < s[k].toNat
      · have Hno : Hid (¬ LineOk s) := okTo_bad hlt (fun h => by have := h.2; have : 126 < s.data[k].toNat := hd2; omega)
        have hd2' : (126 : Int) < (s[k].toNat : Int) := by omega
        clear hdat
        go_wp2
        go_ret2
        exact sret_no Hno.out (Below.refl _ _)
      have hd2' : (s[k].toNat : Int) ≤ 126 := by omega
      have HOK : Hid (OkTo s (k + 1)) := okTo_step Hok.out hlt (by have : s.data[k].toNat = s[k].toNat := rfl; omega) (by have : s.data[k].toNat = s[k].toNat := rfl; omega)
      clear hdat
      go_wp2
      go_round
      case rel => exact ⟨k + 1, by omega, by go_num, HOK.out⟩
      case measure => simp [intOf]; omega
    · obtain rfl : k = s.size := by omega
      go_wp2
      go_loopw [5, 6] (fun v i wr => ∃ (k : Nat) (l : List (Nat × Nat)), k ≤ s.size ∧ l.length ≤ s.size + 1 ∧ i = .int .i64 k ∧ At s k l ∧ wr.ownsRow w.heap.size 9 1 v l.length (l.map (St s)) ∧ Below w.heap.size w wr) (fun _ i _ => s.size - (intOf i).toNat)
      case atStart => exact ⟨0, [], by omega, by simp, rfl, ⟨by omega, .inl rfl⟩, World.ownsRow_made _ _ _ (Nat.le_refl _) (Nat.zero_le _) rfl, (Below.refl _ _).alloc (Nat.le_refl _) _⟩
      case round =>
        obtain ⟨k, l, hk2, hll, rfl, hat, hown, hbel⟩ := hrel
        obtain ⟨A, c, rfl⟩ := own_form hown
        have Hat := Lib.hid hat
        have Hown := Lib.hid hown
        have Hbel := Lib.hid hbel
        have hsz := hbel.size
        clear hat hown hbel
        by_cases hend : k = s.size
        · subst hend
          have hl : l = spans s := Hat.out.done
          subst hl
          by_cases h24 : 24 < (spans s).length
          · have Hno : Hid (¬ LineOk s) := fun h => by have := h.2.2; omega
            have hlen : (24 : Int) < ((spans s).length : Int) := by omega
            go_wp2
            go_ret2
            exact sret_no Hno.out Hbel.out
          · have HY : Hid (LineOk s) := ⟨by omega, Hok.out, by omega⟩
            go_wp2
            go_ret2
            exact sret_yes HY.out Hown.out Hbel.out
        · have hk : k < s.size := by omega
          clear hend
          have hdat : s.data[k]? = some s[k] := by rw [Array.getElem?_eq_getElem hk]; rfl
          by_cases h32 : s[k].toNat = 32
          · have hb : ((s[k].toNat : Int) == 32) = true := by rw [h32]; rfl
            have hc : Hid (s.data[k]? = some 32) := by show _ = _; rw [hdat]; congr 1; rw [← UInt8.ofNat_toNat (x := s[k]), h32]; rfl
            clear hdat h32
            go_wp2
            go_roundw
            case rel => exact ⟨k + 1, l, by omega, by omega, by go_num, Hat.out.blank hk hc.out, Hown.out, Hbel.out⟩
            case measure => simp [intOf]; omega
          · have hb : ((s[k].toNat : Int) == 32) = false := beq_eq_false_iff_ne.2 (by omega)
            have hc : Hid (s.data[k]? ≠ some 32) := by
              show _ ≠ _
              rw [hdat]; intro e; injection e with e; exact h32 (by rw [e]; rfl)
            have hsp := Hat.out.fresh hk hc.out
            have Hsp := Lib.hid hsp
            clear hdat h32 hsp
            go_wp2
            go_loop [6] (fun i => ∃ j : Nat, k ≤ j ∧ j ≤ s.size ∧ i = .int .i64 j ∧ sp s j = (l, k)) (fun i => s.size - (intOf i).toNat)
            case atStart => exact ⟨k, by omega, by omega, rfl, Hsp.out⟩
            case round =>
              obtain ⟨j, hkj, hj, rfl, hspj⟩ := hrel
              have Hspj := Lib.hid hspj
              clear hspj Hsp
              by_cases hje : j = s.size
              · obtain rfl : j = s.size := hje
                have HAT : Hid (At s s.size (l ++ [(k, s.size)])) := ⟨by omega, .inr ⟨k, l, Hspj.out, by omega, rfl, .inl rfl⟩⟩
                have Hlen : Hid ((l ++ [(k, s.size)]).length ≤ s.size + 1) := HAT.out.len
                have hkj' : k < s.size := by omega
                go_wp2_with (at_builtin; refine wpList_append_own _ rfl (.tmp 51) (.tmp 56) 76 rfl w.heap.size 9 i0 _ 1 16 Tryd.underlying76 hi0 hz0 hz1 hz2 rfl (by omega) _ _ _ rfl (Hown.out.alloc _) ⟨wr.heap.size, 0, none⟩ 1 1 [St s (k, s.size)] rfl rfl ?c1 ?c2 ?c3 ?c4 ?c5 ?_)
                case c1 => first | exact cells_new wr #[St s (k, s.size)] _ | exact fun _ _ h => h
                case c2 => first | (intro u hu; simp at hu; subst hu; rfl) | rfl
                case c3 => unfold maxLen; omega
                case c4 => omega
                case c5 => first | omega | (simp; omega)
                intro v2 w2 hown2 hgr2 _
                have Hown2 := Lib.hid hown2
                have Hbel2 := Lib.hid (below_own (Hbel.out.alloc hsz _) (Hown.out.alloc _) hgr2 (Nat.le_refl _))
                clear hown2 hgr2 Hown Hbel
                go_wp2
                go_roundw
                case rel => exact ⟨s.size, l ++ [(k, s.size)], by omega, Hlen.out, by go_num, HAT.out, by rw [List.length_append, List.map_append]; exact Hown2.out, Hbel2.out⟩
                case measure => simp [intOf]; omega
              · have hjl : j < s.size := by omega
                have hdat : s.data[j]? = some s[j] := by rw [Array.getElem?_eq_getElem hjl]; rfl
                by_cases h32 : s[j].toNat = 32
                · have hb2 : ((s[j].toNat : Int) != 32) = false := by rw [h32]; rfl
                  have hc2 : s.data[j]? = some 32 := by rw [hdat]; congr 1; rw [← UInt8.ofNat_toNat (x := s[j]), h32]; rfl
                  have hkj' : k < j := by
                    rcases Nat.lt_or_ge k j with h | h
                    · exact h
                    · have e : j = k := by omega
                      rw [e] at hc2; exact absurd hc2 hc.out
                  have HAT : Hid (At s j (l ++ [(k, j)])) := ⟨by omega, .inr ⟨k, l, Hspj.out, hkj', rfl, .inr hc2⟩⟩
                  have Hlen : Hid ((l ++ [(k, j)]).length ≤ s.size + 1) := HAT.out.len
                  clear hdat h32 hc2
                  go_wp2_with (at_builtin; refine wpList_append_own _ rfl (.tmp 51) (.tmp 56) 76 rfl w.heap.size 9 i0 _ 1 16 Tryd.underlying76 hi0 hz0 hz1 hz2 rfl (by omega) _ _ _ rfl (Hown.out.alloc _) ⟨wr.heap.size, 0, none⟩ 1 1 [St s (k, j)] rfl rfl ?c1 ?c2 ?c3 ?c4 ?c5 ?_)
                  case c1 => first | exact cells_new wr #[St s (k, j)] _ | exact fun _ _ h => h
                  case c2 => first | (intro u hu; simp at hu; subst hu; rfl) | rfl
                  case c3 => unfold maxLen; omega
                  case c4 => omega
                  case c5 => first | omega | (simp; omega)
                  intro v2 w2 hown2 hgr2 _
                  have Hown2 := Lib.hid hown2
                  have Hbel2 := Lib.hid (below_own (Hbel.out.alloc hsz _) (Hown.out.alloc _) hgr2 (Nat.le_refl _))
                  clear hown2 hgr2 Hown Hbel
                  go_wp2
                  go_roundw
                  case rel => exact ⟨j, l ++ [(k, j)], by omega, Hlen.out, by go_num, HAT.out, by rw [List.length_append, List.map_append]; exact Hown2.out, Hbel2.out⟩
                  case measure => simp [intOf]; omega
                · have hb2 : ((s[j].toNat : Int) != 32) = true := by rw [bne_iff_ne]; omega
                  have hc2 : Hid (s.data[j]? ≠ some 32) := by
                    show _ ≠ _
                    rw [hdat]; intro e; injection e with e; exact h32 (by rw [e]; rfl)
                  clear hdat h32
                  go_wp2
                  go_round
                  case rel => exact ⟨j + 1, by omega, by omega, by go_num, by rw [sp_skip hjl hc2.out]; exact Hspj.out⟩
                  case measure => simp [intOf]; omega
end Go.Proofs.YtebiefhfhjgmaaaDoor.SpW
