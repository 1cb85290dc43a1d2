/- FnTorn: the walk: for every list of bytes the law returns true. -/
import Derived.Test.YtebiefhfhjgmaaaDoorOneW
import Derived.Test.YtebiefhfhjgmaaaDoorTornP
namespace Go.Proofs.YtebiefhfhjgmaaaDoor.Tw
set_option maxRecDepth 100000
open Go.RowKit Mm Ac AcM AcW Fp Tb Ja Jr Rd Dr Aw Ow

theorem jadd_at {m : List (List Int)} (h : OkA m) (hm : m.length ≤ 29) {i : Nat} (hi : i < m.length) (w : World) (ht : Tab w) : Calls Tryd.prog 30 #[.string (jb' (m.take i)), .agg #[I (gI m[i] 0), I (gI m[i] 1), I (gI m[i] 2), I (gI m[i] 3), I (gI m[i] 4)]] w (TRet (jb' (m.take (i + 1))) w) := by
  have hz := okA_at h (List.getElem_mem hi)
  have h1 := jl_len (okA_take h i)
  have h2 := recL_len hz.1
  have h3 : (recL m[i]).length = (mk (atx m[i])).size := rfl
  have h4 : (m.take i).length = i := by rw [List.length_take]; omega
  rw [atx_eq hz.1] at h3
  have := jadd_yes hz.1 (jb' (m.take i)) w ht (by rw [jb_size]; omega)
  rw [jb_snoc hi, atx_eq hz.1]
  exact this
/-- The ends of the first i records, and 0 ahead. -/
def ends (m : List (List Int)) (i : Nat) : List Int := (List.range (i + 1)).map fun (j : Nat) => (endI m j : Int)
theorem ends_len (m : List (List Int)) (i : Nat) : (ends m i).length = i + 1 := by simp [ends]
theorem ends_get {m : List (List Int)} {i j : Nat} (h : j < i + 1) : gI (ends m i) j = (endI m j : Int) := by simp [gI, ends, List.getD, h]
theorem ends_snoc (m : List (List Int)) (i : Nat) : ends m (i + 1) = ends m i ++ [(endI m (i + 1) : Int)] := by
  unfold ends; rw [List.range_succ (n := i + 1), List.map_append]; rfl
theorem ends_zero (m : List (List Int)) : ends m 0 = [0] := by simp [ends, endI, jl]
/-- Cells of act i of a row. -/
theorem act_cells {w : World} {B b off n : Nat} {m : List (List Int)} {i : Nat} (h : IRow w B (some ⟨b, off, none⟩) n 5 (rows m)) (hn : n = m.length) (hi : i < m.length) :
    w.cell? ⟨b, off + i * 5, none⟩ = some (I (gI m[i] 0)) ∧ w.cell? ⟨b, off + i * 5 + 1, none⟩ = some (I (gI m[i] 1)) ∧ w.cell? ⟨b, off + i * 5 + 2, none⟩ = some (I (gI m[i] 2)) ∧ w.cell? ⟨b, off + i * 5 + 3, none⟩ = some (I (gI m[i] 3)) ∧ w.cell? ⟨b, off + i * 5 + 4, none⟩ = some (I (gI m[i] 4)) := by
  subst hn
  have f : ∀ j, j < 5 → w.cell? ⟨b, off + i * 5 + j, none⟩ = some (I (gI m[i] j)) := fun j hj => (h.at_ hi hj).trans (congrArg (fun z => some (I z)) (rows_get hi hj))
  exact ⟨f 0 (by decide), f 1 (by decide), f 2 (by decide), f 3 (by decide), f 4 (by decide)⟩
def RetK (m : List (List Int)) (k b : Nat) (w : World) (e : Ending) (w' : World) : Prop :=
  ∃ A c, e = .returned (.tuple #[.slice A k c, I ((b : Nat) : Int)]) ∧ IRow w' w'.heap.size A k 5 (rows (m.take k)) ∧ Below w.heap.size w w'
theorem read_cut {m : List (List Int)} (h : OkA m) (hm : m.length ≤ 29) {i d : Nat} (hi : i ≤ m.length) (h1 : endI m i ≤ d) (h2 : i = m.length ∨ d < endI m (i + 1)) (w : World) (ht : Tab w) (hv : MaxV w) :
    Calls Tryd.prog 42 #[.string ((jb' m).extract 0 d)] w (RetK m i (endI m i) w) :=
  (read_yes (jof_cut h hm hi h1 h2) w (by have := jl_len h; rw [ByteArray.size_extract, jb_size]; omega) ht hv).mono fun e w' ⟨A, c, he, ho, hb⟩ => by
    have hl : (m.take i).length = i := by rw [List.length_take]; omega
    rw [hl] at he ho
    exact ⟨A, c, he, IRow.of_own ho (Nat.le_refl _), hb⟩
set_option maxHeartbeats 8000000 in
theorem walk (A : Option Addr) (n c : Nat) (zs : List Int) (w : World) (hr : BRow w w.heap.size A n zs) (_ : n ≤ maxLen) (ht : Tab w) (hv : MaxV w) :
    Calls Tryd.prog 12 #[.slice A n c] w fun e w' => e = .returned (.bool true) ∧ Below w.heap.size w w' := by
  obtain ⟨i0, hi0, hz0, hz1, hz2⟩ := info_parts info_i
  by_cases hbig : 1048576 < n
  · go_enter Tryd.func12, Tryd.ntmps12
    go_wp2_with fail
    refine (Cn.big_yes _ _ _ _ hbig).mono ?_
    rintro e w' ⟨rfl, rfl⟩
    go_wp2
    go_ret
    exact ⟨rfl, Below.refl _ _⟩
  have hn : n ≤ 1048576 := by omega
  clear hbig
  have Ht := Lib.hid ht
  have Hv := Lib.hid hv
  have Hr := Lib.hid hr
  clear ht hv hr
  go_enter Tryd.func12, Tryd.ntmps12
  go_wp2_with fail
  refine (Cn.big_no _ _ _ _ hn).mono ?_
  rintro e w' ⟨rfl, rfl⟩
  go_wp2_with fail
  refine (drawActs_any A n c zs _ Hr.out hn).mono ?_
  rintro e w1 ⟨p, f, t, l, A', m', c', zl', Aa, ca, m, _, hml, hok, rfl, _, hoa, hb1⟩
  have Hok := Lib.hid hok
  have Ha1 := Lib.hid (IRow.of_own hoa (Nat.le_refl _))
  have Hb1 := Lib.hid hb1
  have hs1 := hb1.size
  clear hok hoa hb1
  go_wp2_with fail
  refine (places_any A n c zs _ ((Hr.out.below (Hb1.out.alloc hs1 _)).more (by simp; omega)) hn).mono ?_
  rintro e w2 ⟨Ap, cp, zl, hzl, hzb, rfl, hop, hb2⟩
  have Hb2 := Lib.hid ((Hb1.out.alloc hs1 _).trans (hb2.mono (by simp; omega)))
  have Ha2 := Lib.hid (((Ha1.out.below (((Below.refl _ _).alloc (Nat.le_refl _) _).trans (hb2.mono (by simp)))).more (show w1.heap.size ≤ w2.heap.size by have := hb2.size; simp at this; omega)))
  obtain ⟨gp, rfl, hgp, p0, p1⟩ := pl_cells hop
  have P0 := Lib.hid p0
  have hz00 := hzb 0
  clear hb2 Hb1 Ha1 hop hzl hzb p0 p1
  have hs2 := Hb2.out.size
  have hj0 : (⟨#[]⟩ : ByteArray) = jb' (m.take 0) := rfl
  go_wp2
  go_loopw [6, 7, 8] (fun s v i wr => ∃ k : Nat, k ≤ m.length ∧ i = .int .i64 k ∧ s = .string (jb' (m.take k)) ∧ wr.ownsRow w2.heap.size 3 1 v (k + 1) ((ends m k).map I) ∧ Below w2.heap.size w2 wr) (fun _ _ i _ => m.length - (intOf i).toNat)
  case atStart =>
    have ho := own_new w2 #[I 0] 3 1 rfl (by unfold maxLen; decide)
    exact ⟨0, Nat.zero_le _, rfl, congrArg Value.string hj0, by rw [ends_zero]; exact ho, (Below.refl _ _).alloc (Nat.le_refl _) _⟩
  case round =>
    obtain ⟨k, hk, rfl, rfl, hown, hbel⟩ := hrel
    obtain ⟨Ae, ce, rfl⟩ := own_form hown
    have Hown := Lib.hid hown
    have Hbel := Lib.hid hbel
    have hsz := hbel.size
    clear hown hbel hj0
    by_cases hlt : k < m.length
    · obtain ⟨b, off, rfl, hbB⟩ := Ha2.out.form (by omega)
      obtain ⟨g0, g1, g2, g3, g4⟩ := act_cells (Ha2.out.below Hbel.out) rfl hlt
      go_wp2_with fail
      refine (jadd_at Hok.out hml hlt _ (tab_below (tab_below Ht.out Hb2.out) Hbel.out)).mono ?_
      rintro e w3 ⟨rfl, hb3⟩
      have Hown3 := Lib.hid (own_below Hown.out hb3)
      have Hbel3 := Lib.hid (Hbel.out.trans (hb3.mono hsz))
      have hsz3 := Hbel3.out.size
      clear hb3 Hown Hbel g0 g1 g2 g3 g4
      go_wp2_with (at_builtin; refine wpList_append_own _ rfl (.tmp 44) (.tmp 47) 66 rfl w2.heap.size 3 i0 _ 1 8 Tryd.underlying66 hi0 hz0 hz1 hz2 rfl (by omega) _ _ _ rfl (Hown3.out.alloc _) ⟨w3.heap.size, 0, none⟩ 1 1 [I (((jb' (m.take (k + 1))).size : Nat) : Int)] rfl rfl ?c1 ?c2 ?c3 ?c4 ?c5 ?_)
      case c1 => exact cells_new w3 #[I (((jb' (m.take (k + 1))).size : Nat) : Int)] _
      case c2 => intro u hu; simp at hu; subst hu; rfl
      case c3 => unfold maxLen; omega
      case c4 => omega
      case c5 => simp; omega
      intro v4 w4 hown4 hgr4 _
      have Hown4 : Hid (w4.ownsRow w2.heap.size 3 1 v4 (k + 1 + 1) ((ends m (k + 1)).map I)) := by rw [ends_snoc, List.map_append]; exact hown4
      have Hbel4 := Lib.hid (below_own (Hbel3.out.alloc hsz3 _) (Hown3.out.alloc _) hgr4 (Nat.le_refl _))
      clear hown4 hgr4 Hown3 Hbel3
      go_wp2
      go_roundw
      case rel => exact ⟨k + 1, by omega, by go_num, rfl, Hown4.out, Hbel4.out⟩
      case measure => simp [intOf]; omega
    · obtain rfl : k = m.length := by omega
      have htk : m.take m.length = m := List.take_length
      rw [htk]
      obtain ⟨hgr, pr0, _⟩ := (⟨Nat.lt_of_lt_of_le hgp hsz, (Hbel.out.cell (p := ⟨gp, 0, none⟩) hgp).trans P0.out, trivial⟩ : gp < wr.heap.size ∧ wr.cell? ⟨gp, 0, none⟩ = some (I (gI zl 0)) ∧ True)
      have hjl := jl_len Hok.out
      have hjs : (jb' m).size ≤ 8000 := by rw [jb_size]; omega
      obtain ⟨d, hd⟩ : ∃ d : Nat, gI zl 0 % (((jb' m).size : Int) + 1) = (d : Int) := ⟨(gI zl 0 % (((jb' m).size : Int) + 1)).toNat, by have := Int.emod_nonneg (gI zl 0) (show ((jb' m).size : Int) + 1 ≠ 0 by omega); omega⟩
      have hdl : d ≤ (jb' m).size := by have := Int.emod_lt_of_pos (gI zl 0) (show (0 : Int) < ((jb' m).size : Int) + 1 by omega); omega
      have hd' : (gI zl 0).tmod (((jb' m).size : Int) + 1) = (d : Int) := by rw [Int.tmod_eq_emod_of_nonneg hz00.1]; exact hd
      obtain ⟨ge, rfl, hge, hec⟩ : ∃ g, Ae = some ⟨g, 0, none⟩ ∧ g < wr.heap.size ∧ ∀ j, j < m.length + 1 → wr.cell? ⟨g, j, none⟩ = some (I (endI m j : Int)) := by
        have hrw := IRow.of_own Hown.out (Nat.le_refl _)
        rcases Hown.out.2 with ⟨_, h0⟩ | ⟨g, cap, cur, hv, _, hh, _⟩
        · omega
        · injection hv with hA _ _
          subst hA
          refine ⟨g, rfl, (Array.getElem?_eq_some_iff.1 hh).1, fun j hj => ?_⟩
          have h1 := hrw.at1 hj
          rw [Nat.zero_add, ends_get hj] at h1
          exact h1
      have Hec := Lib.hid hec
      have He0 : Hid (endI m 0 ≤ d) := Nat.zero_le _
      have Hbw := Lib.hid (Hb2.out.trans (Hbel.out.mono Hb2.out.size))
      have Haw := Lib.hid ((Ha2.out.below Hbel.out).more hsz)
      have hsw := Hbw.out.size
      clear Hown hec hd
      obtain ⟨wo, rfl⟩ : ∃ wo : World, wo = wr := ⟨_, rfl⟩
      go_wp2
      go_loop [12] (fun i => ∃ k : Nat, k ≤ m.length ∧ i = .int .i64 k ∧ endI m k ≤ d) (fun i => m.length - (intOf i).toNat)
      case atStart => exact ⟨0, Nat.zero_le _, rfl, He0.out⟩
      case round =>
        obtain ⟨k, hk, rfl, hek⟩ := hrel
        have Hek := Lib.hid hek
        clear hek
        by_cases hgo : k < m.length ∧ endI m (k + 1) ≤ d
        · obtain ⟨hlt, hle⟩ := hgo
          have e1 := Hec.out (k + 1) (by omega)
          have i1 : (k : Int) + 1 < (m.length : Int) + 1 := by omega
          go_wp2
          go_round
          case rel => exact ⟨k + 1, by omega, by go_num, hle⟩
          case measure => simp [intOf]; omega
        · have hstop : k = m.length ∨ d < endI m (k + 1) := by
            rcases Nat.lt_or_ge k m.length with h | h
            · exact .inr (by
                rcases Nat.lt_or_ge d (endI m (k + 1)) with h2 | h2
                · exact h2
                · exact absurd ⟨h, h2⟩ hgo)
            · exact .inl (by omega)
          have Hstop := Lib.hid hstop
          have ek := Hec.out k (by omega)
          have Hek2 := Lib.hid ek
          have e1 := fun (h : k < m.length) => Hec.out (k + 1) (by omega)
          have hcase : (k < m.length ∧ decide (endI m (k + 1) ≤ d) = false) ∨ k = m.length := by
            rcases Nat.lt_or_ge k m.length with h | h
            · refine .inl ⟨h, decide_eq_false fun h2 => hgo ⟨h, h2⟩⟩
            · exact .inr (by omega)
          have ik : (k : Int) < (m.length : Int) + 1 := by omega
          clear hgo hstop ek
          rcases hcase with ⟨hlt, hdec⟩ | hkm
          · have e2 := e1 hlt
            have i1 : (k : Int) + 1 < (m.length : Int) + 1 := by omega
            clear e1
            go_wp2_with fail
            refine (read_cut Hok.out hml hk Hek.out Hstop.out _ (tab_below Ht.out Hbw.out) (max_below Hv.out Hbw.out)).mono ?_
            rintro e w5 ⟨A5, c5, rfl, hrow5, hb5⟩
            have Hrow5 := Lib.hid hrow5
            have Hbw5 := Lib.hid (Hbw.out.trans (hb5.mono hsw))
            have Haw5 := Lib.hid ((Haw.out.below hb5).more hb5.size)
            have ek5 := (hb5.cell (p := ⟨ge, k, none⟩) hge).trans Hek2.out
            have hs5 := Hbw5.out.size
            clear hrow5 hb5
            go_wp2
            go_loopw [15] (fun i wq => ∃ q : Nat, q ≤ k ∧ i = .int .i64 q ∧ Below w5.heap.size w5 wq) (fun i _ => k - (intOf i).toNat)
            case atStart => exact ⟨0, Nat.zero_le _, rfl, Below.refl _ _⟩
            case round =>
              obtain ⟨q, hq, rfl, hbq⟩ := hrel
              have Hbq := Lib.hid hbq
              clear hbq
              by_cases hqk : q < k
              · have hqm : q < m.length := by omega
                obtain ⟨b1, off1, rfl, hbB1⟩ := Hrow5.out.form (by omega)
                obtain ⟨b2, off2, rfl, hbB2⟩ := Haw5.out.form (by omega)
                have hql : q < (m.take k).length := by rw [List.length_take]; omega
                have hkl : k = (m.take k).length := by rw [List.length_take]; omega
                have hge5 : (m.take k)[q] = m[q] := List.getElem_take
                obtain ⟨x0, x1, x2, x3, x4⟩ := act_cells (Hrow5.out.below Hbq.out) hkl hql
                rw [hge5] at x0 x1 x2 x3 x4
                obtain ⟨y0, y1, y2, y3, y4⟩ := act_cells (Haw5.out.below Hbq.out) rfl hqm
                have j1 : (q : Int) < (k : Int) := by omega
                have j2 : (q : Int) < (m.length : Int) := by omega
                clear hkl hge5
                go_wp2_with fail
                go_quiet (fail)
                go_wp2
                go_roundw
                case rel => exact ⟨q + 1, by omega, by go_num, below_drewN Hbq.out _⟩
                case measure => simp [intOf]; omega
              · obtain rfl : q = k := by omega
                go_wp2_with fail
                refine (sum_yes _).mono ?_
                rintro e w6 ⟨rfl, rfl⟩
                go_wp2
                go_ret
                exact ⟨rfl, Hbw5.out.trans (Hbq.out.mono hs5)⟩
          · have n1 : decide (k < m.length) = false := decide_eq_false (by omega)
            have n2 : ¬ k < m.length := by omega
            have n3 : (m.length : Int) ≤ (k : Int) := by omega
            clear e1 hkm
            go_wp2_with fail
            refine (read_cut Hok.out hml hk Hek.out Hstop.out _ (tab_below Ht.out Hbw.out) (max_below Hv.out Hbw.out)).mono ?_
            rintro e w5 ⟨A5, c5, rfl, hrow5, hb5⟩
            have Hrow5 := Lib.hid hrow5
            have Hbw5 := Lib.hid (Hbw.out.trans (hb5.mono hsw))
            have Haw5 := Lib.hid ((Haw.out.below hb5).more hb5.size)
            have ek5 := (hb5.cell (p := ⟨ge, k, none⟩) hge).trans Hek2.out
            have hs5 := Hbw5.out.size
            clear hrow5 hb5
            go_wp2
            go_loopw [15] (fun i wq => ∃ q : Nat, q ≤ k ∧ i = .int .i64 q ∧ Below w5.heap.size w5 wq) (fun i _ => k - (intOf i).toNat)
            case atStart => exact ⟨0, Nat.zero_le _, rfl, Below.refl _ _⟩
            case round =>
              obtain ⟨q, hq, rfl, hbq⟩ := hrel
              have Hbq := Lib.hid hbq
              clear hbq
              by_cases hqk : q < k
              · have hqm : q < m.length := by omega
                obtain ⟨b1, off1, rfl, hbB1⟩ := Hrow5.out.form (by omega)
                obtain ⟨b2, off2, rfl, hbB2⟩ := Haw5.out.form (by omega)
                have hql : q < (m.take k).length := by rw [List.length_take]; omega
                have hkl : k = (m.take k).length := by rw [List.length_take]; omega
                have hge5 : (m.take k)[q] = m[q] := List.getElem_take
                obtain ⟨x0, x1, x2, x3, x4⟩ := act_cells (Hrow5.out.below Hbq.out) hkl hql
                rw [hge5] at x0 x1 x2 x3 x4
                obtain ⟨y0, y1, y2, y3, y4⟩ := act_cells (Haw5.out.below Hbq.out) rfl hqm
                have j1 : (q : Int) < (k : Int) := by omega
                have j2 : (q : Int) < (m.length : Int) := by omega
                clear hkl hge5
                go_wp2_with fail
                go_quiet (fail)
                go_wp2
                go_roundw
                case rel => exact ⟨q + 1, by omega, by go_num, below_drewN Hbq.out _⟩
                case measure => simp [intOf]; omega
              · obtain rfl : q = k := by omega
                go_wp2_with fail
                refine (sum_yes _).mono ?_
                rintro e w6 ⟨rfl, rfl⟩
                go_wp2
                go_ret
                exact ⟨rfl, Hbw5.out.trans (Hbq.out.mono hs5)⟩
end Go.Proofs.YtebiefhfhjgmaaaDoor.Tw
