/- FormatInt and FormatCode of the program, FormatCode of the reference: what they hand back, for all arguments. -/
import Derived.Test.YtifeilefdakapaaGreatDoorKPTab
import Derived.Test.YtifeilefdakapaaGreatDoorKPNum
import Derived.Test.YtifeilefdakapaaGreatDoorKPShelf
import Derived.Lib.AppendIntMem
namespace Go.Proofs.YtifeilefdakapaaGreatDoor.Fc
open Go.RowKit Mm Tb
set_option maxRecDepth 8000

theorem int_any (n : Int) (w : World) (h0 : -9223372036854775808 ≤ n) (h1 : n ≤ 9223372036854775807) (ht : Tab w) :
    Calls Tryz.prog 14 #[.int .i64 n] w fun e w' => e = .returned (.string ⟨(Lib.itoa n).toArray⟩) ∧ Below w.heap.size w w' := by
  go_enter Tryz.func14, Tryz.ntmps14
  go_wp2_with fail
  refine (Tryz.strconv_Itoa n h0 h1 _ ht).mono ?_
  rintro e w1 ⟨rfl, k, os, hw⟩
  have Hb : Hid (Below w.heap.size w w1) := by rw [hw]; exact Lib.below_grow _ _ (Nat.le_refl _) _ _
  clear hw
  go_wp2_with fail
  go_ret
  exact ⟨rfl, Hb.out⟩

/-- The names of the codes of a kind. -/
def names (kind : Int) : List ByteArray :=
  if kind = 1 then [⟨#[111, 107]⟩, ⟨#[116, 104, 114, 101, 97, 100]⟩, ⟨#[115, 105, 122, 101]⟩, ⟨#[108, 105, 109, 105, 116]⟩, ⟨#[109, 101, 109, 111, 114, 121]⟩, ⟨#[104, 101, 97, 112]⟩] else if kind = 2 then [⟨#[111, 107]⟩, ⟨#[116, 104, 114, 101, 97, 100]⟩, ⟨#[102, 111, 114, 101, 105, 103, 110]⟩, ⟨#[105, 110, 115, 105, 100, 101]⟩, ⟨#[116, 119, 105, 99, 101]⟩, ⟨#[119, 97, 105, 116]⟩, ⟨#[104, 101, 97, 112]⟩] else if kind = 3 then [⟨#[111, 107]⟩, ⟨#[111, 117, 116, 115, 105, 100, 101]⟩, ⟨#[119, 97, 105, 116]⟩, ⟨#[118, 97, 108, 117, 101]⟩] else []
def codeText (kind code : Int) : ByteArray :=
  if code = 90 then ⟨#[110, 111, 110, 101]⟩ else if 0 ≤ code ∧ code < (names kind).length then (names kind).getD code.toNat ByteArray.empty else ⟨(Lib.itoa code).toArray⟩
theorem text_none (kind : Int) : codeText kind 90 = ⟨#[110, 111, 110, 101]⟩ := by simp [codeText]
theorem text_num (kind code : Int) (h : code ≠ 90) (h2 : ¬ (0 ≤ code ∧ code < (names kind).length)) : codeText kind code = ⟨(Lib.itoa code).toArray⟩ := by
  unfold codeText; rw [if_neg h, if_neg h2]

end Go.Proofs.YtifeilefdakapaaGreatDoor.Fc
