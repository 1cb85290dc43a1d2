/- spec.ScriptText: what it hands back, for every row of acts of bounded length. -/
import Derived.Test.YtebiefhfhjgmaaaDoorScT
import Derived.Lib.AppendStr
namespace Go.Proofs.YtebiefhfhjgmaaaDoor.Sc
set_option maxRecDepth 100000
open Go.RowKit Mm Ac AcM AcW Fp Tb Ja

theorem sc_append (a b : ByteArray) : Lib.strCells (a ++ b) = Lib.strCells a ++ Lib.strCells b := by simp [Lib.strCells, ByteArray.data_append]
theorem info_b : (Tryd.prog.info? 5).map (fun i => (i.zero, i.size, i.bytes)) = some (some (.int .u8 0), 1, 1) := by kernel_rfl
theorem own_conv {w : World} {base c : Nat} {A : Option Addr} {s : ByteArray} (h : w.ownsRow base 5 1 (.slice A s.size c) s.size (Lib.strCells s)) :
    (convert 22 9 (.slice A s.size c)).run Tryd.prog w = .ok (.string s) w := by
  rcases h.2 with ⟨hv, h0⟩ | ⟨g, cap, cur, hv, _⟩
  · injection hv with hA _ hc
    subst hA hc
    have es : s = ⟨#[]⟩ := by
      apply ByteArray.ext
      have h1 : s.data.size = 0 := h0
      exact Array.size_eq_zero_iff.1 h1
    subst es
    rw [run_convert_bytes_string w _ _ 5 none _ _ Tryd.underlying22 Tryd.underlying5 Tryd.underlying9]
    rfl
  · injection hv with hA _ _
    subst hA
    have hc : ∀ j (hj : j < s.data.toList.length), w.cell? ((⟨g, 0, none⟩ : Addr).add j) = some (.int .u8 (s.data.toList[j].toNat : Int)) := fun j hj =>
      h.cells (g := g) rfl j _ (by unfold Lib.strCells; rw [List.getElem?_map, List.getElem?_eq_getElem hj]; rfl)
    have := run_convert_bytes_back (P := Tryd.prog) w 22 9 5 ⟨g, 0, none⟩ c s.data.toList Tryd.underlying22 Tryd.underlying5 Tryd.underlying9 hc
    simpa using this

set_option maxHeartbeats 600000 in
theorem spec_any (A : Option Addr) (n c : Nat) (zs : List Int) (w : World) (h : IRow w w.heap.size A n 5 zs) (hn : n ≤ 1048576) :
    Calls Tryd.prog 32 #[.slice A n c] w (SRet zs n w) := by
  obtain ⟨i0, hi0, hz0, hz1, hz2⟩ := info_parts info_b
  go_enter Tryd.func32, Tryd.ntmps32
  go_wp2
  go_loopw [4, 5] (fun v i wr => ∃ (q : Nat) (s : ByteArray), q ≤ n ∧ i = .int .i64 (q : Int) ∧ wr.ownsRow w.heap.size 5 1 v s.size (Lib.strCells s) ∧ ST zs q s ∧ Below w.heap.size w wr) (fun _ i _ => n - (intOf i).toNat)
  case atStart => exact ⟨0, ⟨#[]⟩, Nat.zero_le _, rfl, World.ownsRow_made _ _ _ (Nat.le_refl _) (Nat.zero_le _) rfl, rfl, by go_grown⟩
  case round =>
    obtain ⟨q, s, hq, rfl, hown, hst, hbel⟩ := hrel
    obtain ⟨Ab, cb, rfl⟩ := own_form hown
    have hss := st_size hst
    have hsz := hbel.size
    have Hst := Lib.hid hst
    have Hbel := Lib.hid hbel
    have Hown := Lib.hid hown
    by_cases hlt : q < n
    · obtain ⟨b, off, rfl, hbB⟩ := h.form (by omega)
      have g0 := (hbel.cell (p := ⟨b, off + q * 5, none⟩) hbB).trans (h.at_ hlt (j := 0) (by omega))
      have g1 := (hbel.cell (p := ⟨b, off + q * 5 + 1, none⟩) hbB).trans (h.at_ hlt (j := 1) (by omega))
      have g2 := (hbel.cell (p := ⟨b, off + q * 5 + 2, none⟩) hbB).trans (h.at_ hlt (j := 2) (by omega))
      have g3 := (hbel.cell (p := ⟨b, off + q * 5 + 3, none⟩) hbB).trans (h.at_ hlt (j := 3) (by omega))
      have g4 := (hbel.cell (p := ⟨b, off + q * 5 + 4, none⟩) hbB).trans (h.at_ hlt (j := 4) (by omega))
      clear h hst hbel hown
      go_wp2_with fail
      refine (spec_act zs q _).mono ?_
      rintro e w1 hr
      obtain ⟨t, b, rfl, hf, hb1⟩ := ft_of hr
      have Hf := Lib.hid hf
      have Hb1 : Hid (Below w.heap.size w w1) := Hbel.out.trans (hb1.mono hsz)
      have Hown1 := Lib.hid (own_below Hown.out hb1)
      have hts := ft_size hf
      have H4 : Hid ((t ++ (⟨#[10]⟩ : ByteArray)).size = t.size + 1) := ByteArray.size_append
      clear hr hf hb1
      cases b
      · go_wp2
        go_ret2
        exact ⟨.inr ⟨⟨q, t, hlt, Hf.out⟩, rfl⟩, Hb1.out⟩
      · go_wp2_with (at_builtin; refine Lib.wpList_append_own_string _ rfl _ _ 22 9 rfl w.heap.size 5 i0 Tryd.underlying22 Tryd.underlying9 hi0 hz0 hz1 hz2 _ _ _ rfl Hown1.out _ rfl ?c3 ?c4 ?c5 ?_)
        case c3 => rw [H4.out]; unfold maxLen; omega
        case c4 => rw [H4.out]; omega
        case c5 => exact Hb1.out.size
        intro v2 w2 hown2 hgr2 _
        have Hown2 : Hid (w2.ownsRow w.heap.size 5 1 v2 (s ++ (t ++ ⟨#[10]⟩)).size (Lib.strCells (s ++ (t ++ ⟨#[10]⟩)))) := by
          rw [sc_append, ByteArray.size_append (a := s), H4.out]
          exact hown2
        have Hb2 : Hid (Below w.heap.size w w2) := Hb1.out.grown hgr2 Hb1.out.size (fun k hk => (Hown1.out.lt k hk).1)
        clear hown2 hgr2
        go_wp2
        go_roundw
        case rel => exact ⟨q + 1, _, by omega, by go_num, Hown2.out, ⟨s, t, Hst.out, Hf.out, rfl⟩, Hb2.out⟩
        case measure => simp [intOf]; omega
    · have hcv := own_conv hown
      obtain rfl : q = n := by omega
      clear h hst hbel hown
      go_wp2
      go_ret2
      exact ⟨.inl ⟨s, Hst.out, rfl⟩, Hbel.out⟩
end Go.Proofs.YtebiefhfhjgmaaaDoor.Sc
