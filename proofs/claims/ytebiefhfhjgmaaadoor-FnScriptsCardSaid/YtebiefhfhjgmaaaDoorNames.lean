/- DrawFormatCode hands back a kind and a code of its list; the names of one kind differ; FnCodeNames returns true. -/
import Derived.Test.YtebiefhfhjgmaaaDoorDraw
import Derived.Test.YtebiefhfhjgmaaaDoorCode
namespace Go.Proofs.YtebiefhfhjgmaaaDoor.Cn
set_option maxRecDepth 100000
open Go.RowKit Mm Bt Dr Fc Tb

def cl : List Int := [0, 1, 2, 3, 4, 5, 6, 7, 90, -1]
def FcRet (w : World) (e : Ending) (w' : World) : Prop := ∃ kind a : Int, 0 ≤ kind ∧ kind ≤ 11 ∧ a ∈ cl ∧ e = .returned (.tuple #[I kind, I a]) ∧ Below w.heap.size w w'
theorem gI_mem (zl : List Int) (k : Nat) (h : k < zl.length) : gI zl k ∈ zl := by simp [gI, List.getD, h]
set_option maxHeartbeats 1000000 in
theorem draw_any (A : Option Addr) (n c : Nat) (zs : List Int) (w : World) (hr : BRow w w.heap.size A n zs) (hn : n ≤ 1048576) :
    Calls Tryd.prog 17 #[.slice A n c] w (FcRet w) := by
  go_enter Tryd.func17, Tryd.ntmps17
  go_wp2_with fail
  refine (new_any A n c zs _ hr hn).mono ?_
  rintro e w1 ⟨rfl, hc, hb⟩
  have Hb1 := Lib.hid hb
  have hg := hc.lt
  clear hb hr
  go_wp2_with fail
  refine (below_any 12 (by decide) (by decide) w.heap.size A n c zs _ hc).mono ?_
  rintro e w2 ⟨kind, hk0, hk1, rfl, hc2, hg2⟩
  have Hg2 := Lib.hid hg2
  have hs2 := hg2.size
  clear hc hg2
  go_wp2_with fail
  refine (pick_any cl 10 w2.heap.size 3 rfl (by decide) (by decide) w.heap.size A n c 10 zs _ (hc2.below ((Below.refl _ _).alloc (Nat.le_refl _) _)) (Blk.new _ _ _) (by omega)).mono ?_
  rintro e w3 ⟨k, hk, rfl, hc3, hg3⟩
  have Hb3 : Hid (Below w.heap.size w w3) := by
    have h1 : w1.grownBy (w2.alloc (.cells (cl.map I).toArray 3)) (some w.heap.size) := grown_tr Hg2.out (grown_of_below ((Below.refl _ _).alloc (Nat.le_refl _) _) _)
    exact Hb1.out.grown (grown_tr h1 hg3) Hb1.out.size (fun k hk => by injection hk; omega)
  have Hm := Lib.hid (gI_mem cl k hk)
  clear hc2 hc3 hg3 hk
  go_wp2
  go_ret2
  exact ⟨kind, gI cl k, hk0, hk1, Hm.out, rfl, Hb3.out⟩

/-- The names again, numerals of the list written out. -/
def tbl (kind code : Int) : ByteArray :=
  if code = 90 then ⟨#[110, 111, 110, 101]⟩ else if 0 ≤ code ∧ code < (names kind).length then (names kind).getD code.toNat ByteArray.empty else if code = -1 then ⟨#[45, 49]⟩ else ⟨#[UInt8.ofNat (48 + code.toNat)]⟩
theorem itoa_dig (n : Nat) (h : n < 10) : Lib.itoa (n : Int) = [UInt8.ofNat (48 + n)] := by rw [Tx.itoa_nat, Lib.decDigits_one h]
theorem itoa_m1 : Lib.itoa (-1) = [45, 49] := by
  unfold Lib.itoa
  rw [if_pos (by decide), show ((-1 : Int).natAbs) = 1 from rfl, Lib.decDigits_one (by decide)]
  rfl
theorem ct_tbl (kind a : Int) (h : a ∈ cl) : codeText kind a = tbl kind a := by
  unfold codeText tbl
  by_cases h90 : a = 90
  · rw [if_pos h90, if_pos h90]
  rw [if_neg h90, if_neg h90]
  split
  · rfl
  · rcases (show a = -1 ∨ (0 ≤ a ∧ a < 8) by simp [cl] at h; omega) with rfl | ⟨h0, h8⟩
    · rw [if_pos rfl, itoa_m1]
    · rw [if_neg (by omega)]
      obtain ⟨n, rfl⟩ : ∃ n : Nat, a = (n : Int) := ⟨a.toNat, by omega⟩
      rw [itoa_dig n (by omega)]
      rfl
theorem tbl_ne : ∀ k : Fin 12, ∀ a ∈ cl, ∀ b : Fin 8, ((b.val : Nat) : Int) ≠ a → (tbl ((k.val : Nat) : Int) a).data.toList ≠ (tbl ((k.val : Nat) : Int) ((b.val : Nat) : Int)).data.toList := by decide +kernel
theorem ct_ne (kind a : Int) (b : Nat) (h0 : 0 ≤ kind) (h1 : kind ≤ 11) (ha : a ∈ cl) (hb : b < 8) (hne : (b : Int) ≠ a) : ((codeText kind a).toList == (codeText kind (b : Int)).toList) = false := by
  obtain ⟨n, rfl⟩ : ∃ n : Nat, kind = (n : Int) := ⟨kind.toNat, by omega⟩
  have hbm : (b : Int) ∈ cl := by
    rcases (show b = 0 ∨ b = 1 ∨ b = 2 ∨ b = 3 ∨ b = 4 ∨ b = 5 ∨ b = 6 ∨ b = 7 by omega) with rfl | rfl | rfl | rfl | rfl | rfl | rfl | rfl <;> decide
  have h := tbl_ne ⟨n, by omega⟩ a ha ⟨b, hb⟩ hne
  rw [beq_eq_false_iff_ne, ByteArray.toList_eq, ByteArray.toList_eq, ct_tbl _ _ ha, ct_tbl _ _ hbm]
  exact h
theorem ct_bd {a : Int} (ha : a ∈ cl) : -9223372036854775808 ≤ a ∧ a ≤ 9223372036854775807 := by simp [cl] at ha; omega
theorem none_is (kind : Int) : ((codeText kind 90).toList == [110, 111, 110, 101]) = true := by rw [text_none, ByteArray.toList_eq]; rfl
theorem twice_is : ((codeText 2 4).toList == [116, 119, 105, 99, 101]) = true := by rw [ByteArray.toList_eq]; decide +kernel
theorem big_no (A : Option Addr) (n c : Nat) (w : World) (h : n ≤ 1048576) : Calls Tryd.prog 16 #[.slice A n c] w fun e w' => e = .returned (.bool false) ∧ w = w' := by
  go_enter Tryd.func16, Tryd.ntmps16
  go_wp2
  have e : decide ((1048576 : Int) < (n : Int)) = false := decide_eq_false (by omega)
  go_ret
  first | exact ⟨rfl, rfl⟩ | exact ⟨ret_bool e, rfl⟩
theorem big_yes (A : Option Addr) (n c : Nat) (w : World) (h : 1048576 < n) : Calls Tryd.prog 16 #[.slice A n c] w fun e w' => e = .returned (.bool true) ∧ w = w' := by
  go_enter Tryd.func16, Tryd.ntmps16
  go_wp2
  have e : decide ((1048576 : Int) < (n : Int)) = true := decide_eq_true (by omega)
  go_ret
  first | exact ⟨rfl, rfl⟩ | exact ⟨ret_bool e, rfl⟩
set_option maxHeartbeats 2000000 in
theorem walk (A : Option Addr) (n c : Nat) (zs : List Int) (w : World) (hr : BRow w w.heap.size A n zs) (_ : n ≤ maxLen) (ht : Tab w) :
    Calls Tryd.prog 3 #[.slice A n c] w fun e w' => e = .returned (.bool true) ∧ Below w.heap.size w w' := by
  by_cases hbig : 1048576 < n
  · go_enter Tryd.func3, Tryd.ntmps3
    go_wp2_with fail
    refine (big_yes _ _ _ _ hbig).mono ?_
    rintro e w' ⟨rfl, rfl⟩
    go_wp2
    go_ret
    exact ⟨rfl, Below.refl _ _⟩
  · have hn : n ≤ 1048576 := by omega
    clear hbig
    have Ht := Lib.hid ht
    clear ht
    go_enter Tryd.func3, Tryd.ntmps3
    go_wp2_with fail
    refine (big_no _ _ _ _ hn).mono ?_
    rintro e w' ⟨rfl, rfl⟩
    go_wp2_with fail
    refine (draw_any A n c zs _ hr hn).mono ?_
    rintro e w1 ⟨kind, a, hk0, hk1, ha, rfl, hb⟩
    have Ha := Lib.hid ha
    have Hb1 := Lib.hid hb
    have a0 := (ct_bd ha).1
    have a1 := (ct_bd ha).2
    clear ha hb hr
    go_wp2
    go_loopw [5] (fun i wr => ∃ k : Nat, k ≤ 8 ∧ i = .int .i64 k ∧ Below w.heap.size w wr) (fun i _ => 8 - (intOf i).toNat)
    case atStart => exact ⟨0, by omega, rfl, Hb1.out⟩
    case round =>
      obtain ⟨k, hk, rfl, hbel⟩ := hrel
      have Hbel := Lib.hid hbel
      clear hbel
      by_cases hlt : k < 8
      · by_cases hka : (k : Int) = a
        · have hq : (((k : Int)) != a) = false := by rw [hka]; simp
          clear hka
          go_wp2
          go_roundw
          case rel => exact ⟨k + 1, by omega, by go_num, Hbel.out⟩
          case measure => simp [intOf]; omega
        · have hq : (((k : Int)) != a) = true := by simp [hka]
          have hne := ct_ne kind a k hk0 hk1 Ha.out hlt hka
          clear hka
          go_wp2_with fail
          refine (Fc.impl_any kind a _ a0 a1 (tab_below Ht.out Hbel.out)).mono ?_
          rintro e w2 ⟨rfl, hb2⟩
          have Hb2 := Lib.hid (Hbel.out.trans (hb2.mono Hbel.out.size))
          clear hb2
          go_wp2_with fail
          refine (Fc.impl_any kind k _ (by omega) (by omega) (tab_below Ht.out Hb2.out)).mono ?_
          rintro e w3 ⟨rfl, hb3⟩
          have Hb3 := Lib.hid (Hb2.out.trans (hb3.mono Hb2.out.size))
          clear hb3 Hb2 Hbel
          go_wp2
          go_roundw
          case rel => exact ⟨k + 1, by omega, by go_num, Hb3.out⟩
          case measure => simp [intOf]; omega
      · obtain rfl : k = 8 := by omega
        have q1 := none_is kind
        have q2 := twice_is
        go_wp2_with fail
        refine (Fc.impl_any kind 90 _ (by decide) (by decide) (tab_below Ht.out Hbel.out)).mono ?_
        rintro e w2 ⟨rfl, hb2⟩
        have Hb2 := Lib.hid (Hbel.out.trans (hb2.mono Hbel.out.size))
        clear hb2
        go_wp2_with fail
        refine (Fc.impl_any 2 4 _ (by decide) (by decide) (tab_below Ht.out Hb2.out)).mono ?_
        rintro e w3 ⟨rfl, hb3⟩
        have Hb3 := Lib.hid (Hb2.out.trans (hb3.mono Hb2.out.size))
        clear hb3 Hb2 Hbel
        go_wp2
        go_ret
        exact ⟨rfl, Hb3.out⟩
end Go.Proofs.YtebiefhfhjgmaaaDoor.Cn
