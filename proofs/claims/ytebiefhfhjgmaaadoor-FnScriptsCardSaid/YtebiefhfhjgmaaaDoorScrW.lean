/- FnScripts: the walk: for every list of bytes the law returns true. -/
import Derived.Test.YtebiefhfhjgmaaaDoorScrP
import Derived.Test.YtebiefhfhjgmaaaDoorNames
namespace Go.Proofs.YtebiefhfhjgmaaaDoor.Scr
set_option maxRecDepth 100000
open Go.RowKit Mm Ac AcM AcW Fp Tb Ja Jr Rd Dr Ps Sc

theorem act_cells {w : World} {B b off n : Nat} {m : List (List Int)} {i : Nat} (h : IRow w B (some ⟨b, off, none⟩) n 5 (rows m)) (hn : n = m.length) (hi : i < m.length) :
    w.cell? ⟨b, off + i * 5, none⟩ = some (I (gI m[i] 0)) ∧ w.cell? ⟨b, off + i * 5 + 1, none⟩ = some (I (gI m[i] 1)) ∧ w.cell? ⟨b, off + i * 5 + 2, none⟩ = some (I (gI m[i] 2)) ∧ w.cell? ⟨b, off + i * 5 + 3, none⟩ = some (I (gI m[i] 3)) ∧ w.cell? ⟨b, off + i * 5 + 4, none⟩ = some (I (gI m[i] 4)) := by
  subst hn
  have f : ∀ j, j < 5 → w.cell? ⟨b, off + i * 5 + j, none⟩ = some (I (gI m[i] j)) := fun j hj => (h.at_ hi hj).trans (congrArg (fun z => some (I z)) (rows_get hi hj))
  exact ⟨f 0 (by decide), f 1 (by decide), f 2 (by decide), f 3 (by decide), f 4 (by decide)⟩
/-- ScriptText takes acts that are right. -/
def ScY (m : List (List Int)) (w : World) (e : Ending) (w' : World) : Prop := ∃ s, ST (rows m) m.length s ∧ e = .returned (.tuple #[.string s, .bool true]) ∧ Below w.heap.size w w'
theorem script_yes {m : List (List Int)} (h : OkA m) (A : Option Addr) (c n : Nat) (hn : n = m.length) (w : World) (hr : IRow w w.heap.size A n 5 (rows m)) (hm : m.length ≤ 29) (ht : Tab w) :
    Calls Tryd.prog 34 #[.slice A n c] w (ScY m w) := by
  subst hn
  refine (Sc.impl_any A m.length c (rows m) w hr (by omega) ht).mono ?_
  rintro e w' ⟨⟨s, hs, rfl⟩ | ⟨⟨q, t, hq, hf⟩, _⟩, hb⟩
  · exact ⟨s, hs, rfl, hb⟩
  · exfalso
    rw [az_get h hq] at hf
    obtain ⟨k, hk⟩ := (h m[q] (List.getElem_mem hq)).1
    rcases hf with ⟨_, _, _, h0⟩ | ⟨h0, _⟩
    · cases h0
    · exact h0 k hk
def RetP (m : List (List Int)) (b : Nat) (ok : Bool) (w : World) (e : Ending) (w' : World) : Prop :=
  ∃ A c, e = .returned (.tuple #[.slice A m.length c, I ((b : Nat) : Int), .bool ok]) ∧ w'.ownsRow w.heap.size 44 5 (.slice A m.length c) m.length ((rows m).map I) ∧ Below w.heap.size w w'
theorem parse_ret {s : ByteArray} {m : List (List Int)} {b : Nat} {ok : Bool} (hj : PsOf s m b ok) (w : World) (hs : s.size ≤ 1048576) (hv : MaxV w) :
    Calls Tryd.prog 37 #[.string s] w (RetP m b ok w) :=
  (Ps.impl_any s w hs hv).mono fun e w' ⟨m', b', ok', A, c, hj', he, ho, hb⟩ => by
    obtain ⟨rfl, rfl, rfl⟩ := ps_fun hj hj'
    exact ⟨A, c, he, ho, hb⟩
theorem whole_ret {m : List (List Int)} {s : ByteArray} (h : OkA m) (hst : ST (rows m) m.length s) (hm : m.length ≤ 29) (w : World) (hv : MaxV w) :
    Calls Tryd.prog 37 #[.string ((⟨#[59, 32, 102, 105, 114, 115, 116, 10]⟩ : ByteArray) ++ s ++ ⟨#[10, 32, 32]⟩)] w (RetP m (m.length + 3) true w) := by
  have hs := st_size hst
  have e1 : (⟨#[59, 32, 102, 105, 114, 115, 116, 10]⟩ : ByteArray).size = 8 := rfl
  have e2 : (⟨#[10, 32, 32]⟩ : ByteArray).size = 3 := rfl
  have hsz : ((⟨#[59, 32, 102, 105, 114, 115, 116, 10]⟩ : ByteArray) ++ s ++ ⟨#[10, 32, 32]⟩).size ≤ 20000 := by rw [ByteArray.size_append, ByteArray.size_append, e1, e2]; omega
  have := ps_whole hst (by omega) hsz (by simp [ByteArray.data_append, firstL])
  rw [range_az h] at this
  exact parse_ret this w (by omega) hv
theorem noth_ret {m : List (List Int)} {s : ByteArray} (hst : ST (rows m) m.length s) (hm : m.length ≤ 29) (w : World) (hv : MaxV w) :
    Calls Tryd.prog 37 #[.string (s ++ (⟨#[110, 111, 116, 104, 105, 110, 103]⟩ : ByteArray))] w (RetP [] (m.length + 1) false w) := by
  have hs := st_size hst
  have e1 : (⟨#[110, 111, 116, 104, 105, 110, 103]⟩ : ByteArray).size = 7 := rfl
  have hsz : (s ++ (⟨#[110, 111, 116, 104, 105, 110, 103]⟩ : ByteArray)).size ≤ 20000 := by rw [ByteArray.size_append, e1]; omega
  exact parse_ret (ps_noth hst hsz (by simp [ByteArray.data_append, nothL])) w (by omega) hv

set_option maxHeartbeats 2000000 in
theorem walk (A : Option Addr) (n c : Nat) (zs : List Int) (w : World) (hr : BRow w w.heap.size A n zs) (_ : n ≤ maxLen) (ht : Tab w) (hv : MaxV w) :
    Calls Tryd.prog 14 #[.slice A n c] w fun e w' => e = .returned (.bool true) ∧ Below w.heap.size w w' := by
  by_cases hbig : 1048576 < n
  · go_enter Tryd.func14, Tryd.ntmps14
    go_wp2_with fail
    refine (Cn.big_yes _ _ _ _ hbig).mono ?_
    rintro e w' ⟨rfl, rfl⟩
    go_wp2
    go_ret
    exact ⟨rfl, Below.refl _ _⟩
  have hn : n ≤ 1048576 := by omega
  clear hbig
  have Ht := Lib.hid ht
  have Hv := Lib.hid hv
  have Hr := Lib.hid hr
  clear ht hv hr
  go_enter Tryd.func14, Tryd.ntmps14
  go_wp2_with fail
  refine (Cn.big_no _ _ _ _ hn).mono ?_
  rintro e w' ⟨rfl, rfl⟩
  go_wp2_with fail
  refine (drawActs_any A n c zs _ Hr.out hn).mono ?_
  rintro e w1 ⟨p, f, t, l, A', m', c', zl', Aa, ca, m, _, hml, hok, rfl, _, hoa, hb1⟩
  have Hok := Lib.hid hok
  have Ha1 := Lib.hid (IRow.of_own hoa (Nat.le_refl _))
  have Hb1 := Lib.hid hb1
  have hs1 := hb1.size
  clear hok hoa hb1
  go_wp2_with fail
  refine (script_yes Hok.out _ _ _ rfl _ ((Ha1.out.below ((Below.refl _ _).alloc (Nat.le_refl _) _)).more (by simp)) hml (tab_below Ht.out (Hb1.out.alloc hs1 _))).mono ?_
  rintro e w2 ⟨s, hst, rfl, hb2⟩
  have Hb2 := Lib.hid ((Hb1.out.alloc hs1 _).trans (hb2.mono (by simp; omega)))
  have Ha2 := Lib.hid (((Ha1.out.below (((Below.refl _ _).alloc (Nat.le_refl _) _).trans (hb2.mono (by simp)))).more (show w1.heap.size ≤ w2.heap.size by have := hb2.size; simp at this; omega)))
  have Hst := Lib.hid hst
  have hss := st_size hst
  have e1 : (⟨#[59, 32, 102, 105, 114, 115, 116, 10]⟩ : ByteArray).size = 8 := rfl
  have e2 : (⟨#[10, 32, 32]⟩ : ByteArray).size = 3 := rfl
  have e3 : (⟨#[110, 111, 116, 104, 105, 110, 103]⟩ : ByteArray).size = 7 := rfl
  have n1 : ¬ (9223372036854775807 < 8 + s.size) := by omega
  have n2 : ¬ (9223372036854775807 < 8 + s.size + 3) := by omega
  have n3 : ¬ (9223372036854775807 < s.size + 7) := by omega
  have hs2 := Hb2.out.size
  clear hst hb2 Hb1 Ha1
  go_wp2_with fail
  refine (whole_ret Hok.out Hst.out hml _ (max_below Hv.out Hb2.out)).mono ?_
  rintro e w3 ⟨A3, c3, rfl, ho3, hb3⟩
  have Hb3 := Lib.hid (Hb2.out.trans (hb3.mono hs2))
  have Ha3 := Lib.hid ((Ha2.out.below hb3).more hb3.size)
  have Hr3 := Lib.hid (IRow.of_own ho3 (Nat.le_refl _))
  have hs3 := Hb3.out.size
  clear ho3 hb3 Hb2 Ha2
  go_wp2_with fail
  refine (noth_ret Hst.out hml _ (max_below Hv.out Hb3.out)).mono ?_
  rintro e w4 ⟨A4, c4, rfl, _, hb4⟩
  have Hb4 := Lib.hid (Hb3.out.trans (hb4.mono hs3))
  have Ha4 := Lib.hid ((Ha3.out.below hb4).more hb4.size)
  have Hr4 := Lib.hid ((Hr3.out.below hb4).more hb4.size)
  have hs4 := Hb4.out.size
  clear hb4 Hb3 Ha3 Hr3 n1 n2 n3 e1 e2 e3
  go_wp2
  go_loopw [13] (fun i wq => ∃ q : Nat, q ≤ m.length ∧ i = .int .i64 q ∧ Below w4.heap.size w4 wq) (fun i _ => m.length - (intOf i).toNat)
  case atStart => exact ⟨0, Nat.zero_le _, rfl, Below.refl _ _⟩
  case round =>
    obtain ⟨q, hq, rfl, hbq⟩ := hrel
    have Hbq := Lib.hid hbq
    clear hbq
    by_cases hqk : q < m.length
    · obtain ⟨b1, off1, rfl, hbB1⟩ := Hr4.out.form (by omega)
      obtain ⟨b2, off2, rfl, hbB2⟩ := Ha4.out.form (by omega)
      obtain ⟨x0, x1, x2, x3, x4⟩ := act_cells (Hr4.out.below Hbq.out) rfl hqk
      obtain ⟨y0, y1, y2, y3, y4⟩ := act_cells (Ha4.out.below Hbq.out) rfl hqk
      have j1 : (q : Int) < (m.length : Int) := by omega
      go_wp2_with fail
      go_quiet (fail)
      go_wp2
      go_roundw
      case rel => exact ⟨q + 1, by omega, by go_num, below_drewN Hbq.out _⟩
      case measure => simp [intOf]; omega
    · obtain rfl : q = m.length := by omega
      go_wp2
      go_ret
      exact ⟨rfl, Hb4.out.trans (Hbq.out.mono hs4)⟩
end Go.Proofs.YtebiefhfhjgmaaaDoor.Scr
