/-
  No cell of these rows narrows 'for every input' (looked for: loops, veiled, ifaces, maps, wideKeys, modest, calm, conditions, laid).
  DERIVED. THE GIVEN ROWS OF THIS SEAT. 4 by the template 'for every input the law returns true; each argument reads behind the call as it read before'; 0 by the template 'total and deterministic' (their statements: YtjgjnlppphejpaaGreatTotals.lean).
  GIVEN WITH THE SEED: the statements are not yours to turn. If you find one false, say at which input.
  Laid BY PROGRAM, IN A SANDBOX (cutbox-rows.mjs): the forced cells as the released guide's own fill.sh prints them over the translation d9a073d8511bf011… (all of the seat's roots in one cut). By AI agents, Wed Nov 11 2026. No macro, syntax, notation, axiom, sorry.
-/
import Derived.Test.YtjgjnlppphejpaaGreatChecked
import GoSem.Claim
import GoSem.ClaimJoined
import GoSem.ClaimMapViews
import Derived.JoinedTies
import Derived.KernelRfl
namespace Go.Proofs.YtjgjnlppphejpaaGreat
/- THE CELL 'sum', in the pinned program and in every row, IS THE sha256 OF THE DUMP (.gsa) THAT YtjgjnlppphejpaaGreatProg.lean LOADS. Nothing in Lean hashes anything: it is a label: what it is worth is what the hold of that sum in a sandbox is worth. -/
noncomputable def Tryz.pinned : Pinned := { name := "ytjgjnlppphejpaagreat", sum := "d9a073d8511bf0116bbe1721ebd57297d60848ec0c318539d1bbd14fa4ab0243", checked := Tryz.checked }
namespace Rows
def none {H : Type} : Left H := { results := [], args := [] }

/-- 'laws.FnExactPressureOf': WHATEVER THE INPUT: true; the input reads as it did. -/
def fnExactPressureOfSpec : ChangeSpec := { name := "fnExactPressureOf", fn := fun _ => fun
  | [d] => { results := [.lit (.bool true)], args := [d] }
  | _ => none }
def fnExactPressureOfRow : OpenClaim := { program := "ytjgjnlppphejpaagreat", sum := "d9a073d8511bf0116bbe1721ebd57297d60848ec0c318539d1bbd14fa4ab0243", func := "loop.example/g00978/laws.FnExactPressureOf", spec := "fnExactPressureOf", unfollowed := true, recurses := true, apart := false }
def FnExactPressureOfSaid : Prop := fnExactPressureOfRow.holds Tryz.pinned (OpenSpec.ofChange fnExactPressureOfSpec)

/-- ITS FALSE NEIGHBOUR: 'it returns false'. Refute it at one input. -/
def fnExactPressureOfWrong : ChangeSpec := { name := "fnExactPressureOf", fn := fun _ => fun
  | [d] => { results := [.lit (.bool false)], args := [d] }
  | _ => none }
def FnExactPressureOfWrongFalsely : Prop := fnExactPressureOfRow.holds Tryz.pinned (OpenSpec.ofChange fnExactPressureOfWrong)

/-- 'laws.FnExactHeapDestroy': WHATEVER THE INPUT: true; the input reads as it did. -/
def fnExactHeapDestroySpec : ChangeSpec := { name := "fnExactHeapDestroy", fn := fun _ => fun
  | [d] => { results := [.lit (.bool true)], args := [d] }
  | _ => none }
def fnExactHeapDestroyRow : OpenClaim := { program := "ytjgjnlppphejpaagreat", sum := "d9a073d8511bf0116bbe1721ebd57297d60848ec0c318539d1bbd14fa4ab0243", func := "loop.example/g00978/laws.FnExactHeapDestroy", spec := "fnExactHeapDestroy", unfollowed := true, recurses := true, apart := false }
def FnExactHeapDestroySaid : Prop := fnExactHeapDestroyRow.holds Tryz.pinned (OpenSpec.ofChange fnExactHeapDestroySpec)

/-- ITS FALSE NEIGHBOUR: 'it returns false'. Refute it at one input. -/
def fnExactHeapDestroyWrong : ChangeSpec := { name := "fnExactHeapDestroy", fn := fun _ => fun
  | [d] => { results := [.lit (.bool false)], args := [d] }
  | _ => none }
def FnExactHeapDestroyWrongFalsely : Prop := fnExactHeapDestroyRow.holds Tryz.pinned (OpenSpec.ofChange fnExactHeapDestroyWrong)

/-- 'laws.FnExactWorldOk': WHATEVER THE INPUT: true; the input reads as it did. -/
def fnExactWorldOkSpec : ChangeSpec := { name := "fnExactWorldOk", fn := fun _ => fun
  | [d] => { results := [.lit (.bool true)], args := [d] }
  | _ => none }
def fnExactWorldOkRow : OpenClaim := { program := "ytjgjnlppphejpaagreat", sum := "d9a073d8511bf0116bbe1721ebd57297d60848ec0c318539d1bbd14fa4ab0243", func := "loop.example/g00978/laws.FnExactWorldOk", spec := "fnExactWorldOk", unfollowed := true, recurses := true, apart := false }
def FnExactWorldOkSaid : Prop := fnExactWorldOkRow.holds Tryz.pinned (OpenSpec.ofChange fnExactWorldOkSpec)

/-- ITS FALSE NEIGHBOUR: 'it returns false'. Refute it at one input. -/
def fnExactWorldOkWrong : ChangeSpec := { name := "fnExactWorldOk", fn := fun _ => fun
  | [d] => { results := [.lit (.bool false)], args := [d] }
  | _ => none }
def FnExactWorldOkWrongFalsely : Prop := fnExactWorldOkRow.holds Tryz.pinned (OpenSpec.ofChange fnExactWorldOkWrong)

/-- 'laws.FnExactFactsOf': WHATEVER THE INPUT: true; the input reads as it did. -/
def fnExactFactsOfSpec : ChangeSpec := { name := "fnExactFactsOf", fn := fun _ => fun
  | [d] => { results := [.lit (.bool true)], args := [d] }
  | _ => none }
def fnExactFactsOfRow : OpenClaim := { program := "ytjgjnlppphejpaagreat", sum := "d9a073d8511bf0116bbe1721ebd57297d60848ec0c318539d1bbd14fa4ab0243", func := "loop.example/g00978/laws.FnExactFactsOf", spec := "fnExactFactsOf", unfollowed := true, recurses := true, apart := false }
def FnExactFactsOfSaid : Prop := fnExactFactsOfRow.holds Tryz.pinned (OpenSpec.ofChange fnExactFactsOfSpec)

/-- ITS FALSE NEIGHBOUR: 'it returns false'. Refute it at one input. -/
def fnExactFactsOfWrong : ChangeSpec := { name := "fnExactFactsOf", fn := fun _ => fun
  | [d] => { results := [.lit (.bool false)], args := [d] }
  | _ => none }
def FnExactFactsOfWrongFalsely : Prop := fnExactFactsOfRow.holds Tryz.pinned (OpenSpec.ofChange fnExactFactsOfWrong)

/- THE SECOND FORM. 'bulk': how many values and letters a reading holds, each counted each time it is reached (what is shared counts as often as it is met; a slice's spare places count too). A statement '..UptoSaid' is the law's where the arguments, and the package variables that the reading takes, are together of bulk at most 1048576: NARROWER than '..Said'. Prove '..Said' where nothing that the law and all that it calls make is longer than what came in: it says more and counts as full. Else prove '..UptoSaid'. A law counts once. -/
mutual
def uptoBulk {H : Type} : DataW H → Nat
  | .lit (.string bytes) => bytes.length + 1
  | .lit _ => 1
  | .nil => 1
  | .ptr d => uptoBulk d + 1
  | .slice elems spare => uptoBulkAll elems + uptoBulkAll spare + 1
  | .agg parts => uptoBulkAll parts + 1
  | .iface _ d => uptoBulk d + 1
  | .map entries => uptoBulkEntries entries + 1
  | .held _ => 1
def uptoBulkAll {H : Type} : List (DataW H) → Nat
  | [] => 0
  | d :: r => uptoBulk d + uptoBulkAll r
def uptoBulkEntries {H : Type} : List (Lit × DataW H) → Nat
  | [] => 0
  | x :: r => uptoBulkEntry x + uptoBulkEntries r
def uptoBulkEntry {H : Type} : Lit × DataW H → Nat
  | (.string bytes, d) => bytes.length + uptoBulk d + 1
  | (_, d) => uptoBulk d + 1
 end
def uptoSmall : (H : Type) → List (DataW H) → Bool := fun _ ds => decide (uptoBulkAll ds ≤ 1048576)
def OpenSpec.upto (s : _root_.Go.ChangeSpec) : _root_.Go.OpenSpec := { _root_.Go.OpenSpec.ofChange s with cond := some uptoSmall }

/-- 'laws.FnExactPressureOf', WHERE WHAT IT READS IS OF BULK AT MOST 1048576: true; the input reads as it did. -/
def fnExactPressureOfUptoRow : OpenClaim := { program := "ytjgjnlppphejpaagreat", sum := "d9a073d8511bf0116bbe1721ebd57297d60848ec0c318539d1bbd14fa4ab0243", func := "loop.example/g00978/laws.FnExactPressureOf", spec := "fnExactPressureOf", unfollowed := true, recurses := true, apart := false, narrowed := true }
def FnExactPressureOfUptoSaid : Prop := fnExactPressureOfUptoRow.holds Tryz.pinned (OpenSpec.upto fnExactPressureOfSpec)

/-- 'laws.FnExactHeapDestroy', WHERE WHAT IT READS IS OF BULK AT MOST 1048576: true; the input reads as it did. -/
def fnExactHeapDestroyUptoRow : OpenClaim := { program := "ytjgjnlppphejpaagreat", sum := "d9a073d8511bf0116bbe1721ebd57297d60848ec0c318539d1bbd14fa4ab0243", func := "loop.example/g00978/laws.FnExactHeapDestroy", spec := "fnExactHeapDestroy", unfollowed := true, recurses := true, apart := false, narrowed := true }
def FnExactHeapDestroyUptoSaid : Prop := fnExactHeapDestroyUptoRow.holds Tryz.pinned (OpenSpec.upto fnExactHeapDestroySpec)

/-- 'laws.FnExactWorldOk', WHERE WHAT IT READS IS OF BULK AT MOST 1048576: true; the input reads as it did. -/
def fnExactWorldOkUptoRow : OpenClaim := { program := "ytjgjnlppphejpaagreat", sum := "d9a073d8511bf0116bbe1721ebd57297d60848ec0c318539d1bbd14fa4ab0243", func := "loop.example/g00978/laws.FnExactWorldOk", spec := "fnExactWorldOk", unfollowed := true, recurses := true, apart := false, narrowed := true }
def FnExactWorldOkUptoSaid : Prop := fnExactWorldOkUptoRow.holds Tryz.pinned (OpenSpec.upto fnExactWorldOkSpec)

/-- 'laws.FnExactFactsOf', WHERE WHAT IT READS IS OF BULK AT MOST 1048576: true; the input reads as it did. -/
def fnExactFactsOfUptoRow : OpenClaim := { program := "ytjgjnlppphejpaagreat", sum := "d9a073d8511bf0116bbe1721ebd57297d60848ec0c318539d1bbd14fa4ab0243", func := "loop.example/g00978/laws.FnExactFactsOf", spec := "fnExactFactsOf", unfollowed := true, recurses := true, apart := false, narrowed := true }
def FnExactFactsOfUptoSaid : Prop := fnExactFactsOfUptoRow.holds Tryz.pinned (OpenSpec.upto fnExactFactsOfSpec)

end Rows
end Go.Proofs.YtjgjnlppphejpaaGreat
