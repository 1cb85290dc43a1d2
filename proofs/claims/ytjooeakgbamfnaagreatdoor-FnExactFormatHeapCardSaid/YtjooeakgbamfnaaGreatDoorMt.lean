/- The laws' marks on texts. No condition. -/
import Derived.Test.YtjooeakgbamfnaaGreatDoorAcc
namespace Go.Proofs.YtjooeakgbamfnaaGreatDoor.Nm
open Go.RowKit Tx Mm
set_option maxRecDepth 8000
/-- The text of a mark. -/
def mkT (n : Int) : ByteArray := if n ≤ 0 then ⟨#[109, 48]⟩ else ⟨#[109]⟩ ++ ⟨(Lib.itoa n).toArray⟩
set_option maxHeartbeats 400000 in
theorem markText_any (n : Int) (w : World) (h1 : n ≤ 9223372036854775807) :
    Calls Tryz.prog 65 #[.int .i64 n] w fun e w' => e = .returned (.string (mkT n)) ∧ Below w.heap.size w w' := by
  unfold mkT
  by_cases hz : n ≤ 0
  · rw [if_pos hz]
    go_enter Tryz.func65, Tryz.ntmps65
    go_wp2
    go_ret
    exact ⟨rfl, Below.refl _ _⟩
  · rw [if_neg hz]
    have h0 : -9223372036854775808 ≤ n := by omega
    go_enter Tryz.func65, Tryz.ntmps65
    go_wp2
    go_loopw [0, 3] (fun q v wr => ∃ (m : Nat) (l : List UInt8), q = .int .i64 (m : Int) ∧ v = .string ⟨l.toArray⟩ ∧ Fm n w m l wr) (fun q _ _ => (intOf q).natAbs)
    case atStart => exact ⟨n.natAbs, [], by rw [show (n.natAbs : Int) = n by omega], rfl, Nat.le_refl _, by simp, Below.refl _ _⟩
    case round =>
      obtain ⟨m, l, rfl, rfl, hf⟩ := hrel
      have hl := hf.len h0 h1
      have hm := hf.1
      have Hf := Lib.hid hf
      clear hf
      by_cases hm0 : m = 0
      · subst hm0
        have hsz : (⟨l.toArray⟩ : ByteArray).size = l.length := rfl
        go_wp2
        go_ret
        refine ⟨ret_str ?_, Hf.out.2.2⟩
        have h5 := Hf.out.2.1
        rw [itoa_dz n (by omega), if_neg (by omega), h5]
        simp [dz]
      · have hme : (m : Int) > 0 := by omega
        have hcv := conv_one wr (m % 10) (48 + (m : Int) % 10) (by omega) (by omega)
        go_wp2
        go_roundw
        case rel =>
          exact ⟨m / 10, _, by go_num, cat_digit _ _ _ (by rw [UInt8.ofNat_add]; rfl), Hf.out.step hm0 _⟩
        case measure => simp [intOf]; omega
end Go.Proofs.YtjooeakgbamfnaaGreatDoor.Nm
