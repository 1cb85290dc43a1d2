/-
  No cell of these rows narrows 'for every input' (looked for: loops, veiled, ifaces, maps, wideKeys, modest, calm, conditions, laid).
  DERIVED. THE GIVEN ROWS OF THIS SEAT. 5 by the template 'for every input the law returns true; each argument reads behind the call as it read before'; 0 by the template 'total and deterministic' (their statements: YtebiefhfhjgmaaaTotals.lean).
  GIVEN WITH THE SEED: the statements are not yours to turn. If you find one false, say at which input.
  Laid BY PROGRAM, IN A SANDBOX (cutbox-rows.mjs): the forced cells as the released guide's own fill.sh prints them over the translation bdd2e5a78f61c630… (all of the seat's roots in one cut). By AI agents, Wed Nov 11 2026. No macro, syntax, notation, axiom, sorry.
-/
import Derived.Test.YtebiefhfhjgmaaaChecked
import GoSem.Claim
import GoSem.ClaimJoined
import GoSem.ClaimMapViews
import Derived.JoinedTies
import Derived.KernelRfl
namespace Go.Proofs.Ytebiefhfhjgmaaa
/- THE CELL 'sum', in the pinned program and in every row, IS THE sha256 OF THE DUMP (.gsa) THAT YtebiefhfhjgmaaaProg.lean LOADS. Nothing in Lean hashes anything: it is a label: what it is worth is what the hold of that sum in a sandbox is worth. -/
noncomputable def Try.pinned : Pinned := { name := "ytebiefhfhjgmaaa", sum := "bdd2e5a78f61c6301babc383b136cd38eb75c6a564b760406d28c59118415412", checked := Try.checked }
namespace Rows
def none {H : Type} : Left H := { results := [], args := [] }

/-- 'laws.FnExactSumOf': WHATEVER THE INPUT: true; the input reads as it did. -/
def fnExactSumOfSpec : ChangeSpec := { name := "fnExactSumOf", fn := fun _ => fun
  | [d] => { results := [.lit (.bool true)], args := [d] }
  | _ => none }
def fnExactSumOfRow : OpenClaim := { program := "ytebiefhfhjgmaaa", sum := "bdd2e5a78f61c6301babc383b136cd38eb75c6a564b760406d28c59118415412", func := "loop.example/g00978/laws.FnExactSumOf", spec := "fnExactSumOf", apart := false }
def FnExactSumOfSaid : Prop := fnExactSumOfRow.holds Try.pinned (OpenSpec.ofChange fnExactSumOfSpec)

/-- ITS FALSE NEIGHBOUR: 'it returns false'. Refute it at one input. -/
def fnExactSumOfWrong : ChangeSpec := { name := "fnExactSumOf", fn := fun _ => fun
  | [d] => { results := [.lit (.bool false)], args := [d] }
  | _ => none }
def FnExactSumOfWrongFalsely : Prop := fnExactSumOfRow.holds Try.pinned (OpenSpec.ofChange fnExactSumOfWrong)

/-- 'laws.FnExactFactsSame': WHATEVER THE INPUT: true; the input reads as it did. -/
def fnExactFactsSameSpec : ChangeSpec := { name := "fnExactFactsSame", fn := fun _ => fun
  | [d1, d2] => { results := [.lit (.bool true)], args := [d1, d2] }
  | _ => none }
def fnExactFactsSameRow : OpenClaim := { program := "ytebiefhfhjgmaaa", sum := "bdd2e5a78f61c6301babc383b136cd38eb75c6a564b760406d28c59118415412", func := "loop.example/g00978/laws.FnExactFactsSame", spec := "fnExactFactsSame", apart := false }
def FnExactFactsSameSaid : Prop := fnExactFactsSameRow.holds Try.pinned (OpenSpec.ofChange fnExactFactsSameSpec)

/-- ITS FALSE NEIGHBOUR: 'it returns false'. Refute it at one input. -/
def fnExactFactsSameWrong : ChangeSpec := { name := "fnExactFactsSame", fn := fun _ => fun
  | [d1, d2] => { results := [.lit (.bool false)], args := [d1, d2] }
  | _ => none }
def FnExactFactsSameWrongFalsely : Prop := fnExactFactsSameRow.holds Try.pinned (OpenSpec.ofChange fnExactFactsSameWrong)

/-- 'laws.FnExactCodesWithoutMesh': WHATEVER THE INPUT: true; the input reads as it did. -/
def fnExactCodesWithoutMeshSpec : ChangeSpec := { name := "fnExactCodesWithoutMesh", fn := fun _ => fun
  | [d1, d2] => { results := [.lit (.bool true)], args := [d1, d2] }
  | _ => none }
def fnExactCodesWithoutMeshRow : OpenClaim := { program := "ytebiefhfhjgmaaa", sum := "bdd2e5a78f61c6301babc383b136cd38eb75c6a564b760406d28c59118415412", func := "loop.example/g00978/laws.FnExactCodesWithoutMesh", spec := "fnExactCodesWithoutMesh", apart := false }
def FnExactCodesWithoutMeshSaid : Prop := fnExactCodesWithoutMeshRow.holds Try.pinned (OpenSpec.ofChange fnExactCodesWithoutMeshSpec)

/-- ITS FALSE NEIGHBOUR: 'it returns false'. Refute it at one input. -/
def fnExactCodesWithoutMeshWrong : ChangeSpec := { name := "fnExactCodesWithoutMesh", fn := fun _ => fun
  | [d1, d2] => { results := [.lit (.bool false)], args := [d1, d2] }
  | _ => none }
def FnExactCodesWithoutMeshWrongFalsely : Prop := fnExactCodesWithoutMeshRow.holds Try.pinned (OpenSpec.ofChange fnExactCodesWithoutMeshWrong)

/-- 'laws.FnExactWithoutMesh': WHATEVER THE INPUT: true; the input reads as it did. -/
def fnExactWithoutMeshSpec : ChangeSpec := { name := "fnExactWithoutMesh", fn := fun _ => fun
  | [d] => { results := [.lit (.bool true)], args := [d] }
  | _ => none }
def fnExactWithoutMeshRow : OpenClaim := { program := "ytebiefhfhjgmaaa", sum := "bdd2e5a78f61c6301babc383b136cd38eb75c6a564b760406d28c59118415412", func := "loop.example/g00978/laws.FnExactWithoutMesh", spec := "fnExactWithoutMesh", unfollowed := true, recurses := true, apart := false }
def FnExactWithoutMeshSaid : Prop := fnExactWithoutMeshRow.holds Try.pinned (OpenSpec.ofChange fnExactWithoutMeshSpec)

/-- ITS FALSE NEIGHBOUR: 'it returns false'. Refute it at one input. -/
def fnExactWithoutMeshWrong : ChangeSpec := { name := "fnExactWithoutMesh", fn := fun _ => fun
  | [d] => { results := [.lit (.bool false)], args := [d] }
  | _ => none }
def FnExactWithoutMeshWrongFalsely : Prop := fnExactWithoutMeshRow.holds Try.pinned (OpenSpec.ofChange fnExactWithoutMeshWrong)

/-- 'laws.FnExactParseAct': WHATEVER THE INPUT: true; the input reads as it did. -/
def fnExactParseActSpec : ChangeSpec := { name := "fnExactParseAct", fn := fun _ => fun
  | [d] => { results := [.lit (.bool true)], args := [d] }
  | _ => none }
def fnExactParseActRow : OpenClaim := { program := "ytebiefhfhjgmaaa", sum := "bdd2e5a78f61c6301babc383b136cd38eb75c6a564b760406d28c59118415412", func := "loop.example/g00978/laws.FnExactParseAct", spec := "fnExactParseAct", apart := false }
def FnExactParseActSaid : Prop := fnExactParseActRow.holds Try.pinned (OpenSpec.ofChange fnExactParseActSpec)

/-- ITS FALSE NEIGHBOUR: 'it returns false'. Refute it at one input. -/
def fnExactParseActWrong : ChangeSpec := { name := "fnExactParseAct", fn := fun _ => fun
  | [d] => { results := [.lit (.bool false)], args := [d] }
  | _ => none }
def FnExactParseActWrongFalsely : Prop := fnExactParseActRow.holds Try.pinned (OpenSpec.ofChange fnExactParseActWrong)

/- THE SECOND FORM. 'bulk': how many values and letters a reading holds, each counted each time it is reached (what is shared counts as often as it is met; a slice's spare places count too). A statement '..UptoSaid' is the law's where the arguments, and the package variables that the reading takes, are together of bulk at most 1048576: NARROWER than '..Said'. Prove '..Said' where nothing that the law and all that it calls make is longer than what came in: it says more and counts as full. Else prove '..UptoSaid'. A law counts once. -/
mutual
def uptoBulk {H : Type} : DataW H → Nat
  | .lit (.string bytes) => bytes.length + 1
  | .lit _ => 1
  | .nil => 1
  | .ptr d => uptoBulk d + 1
  | .slice elems spare => uptoBulkAll elems + uptoBulkAll spare + 1
  | .agg parts => uptoBulkAll parts + 1
  | .iface _ d => uptoBulk d + 1
  | .map entries => uptoBulkEntries entries + 1
  | .held _ => 1
def uptoBulkAll {H : Type} : List (DataW H) → Nat
  | [] => 0
  | d :: r => uptoBulk d + uptoBulkAll r
def uptoBulkEntries {H : Type} : List (Lit × DataW H) → Nat
  | [] => 0
  | x :: r => uptoBulkEntry x + uptoBulkEntries r
def uptoBulkEntry {H : Type} : Lit × DataW H → Nat
  | (.string bytes, d) => bytes.length + uptoBulk d + 1
  | (_, d) => uptoBulk d + 1
 end
def uptoSmall : (H : Type) → List (DataW H) → Bool := fun _ ds => decide (uptoBulkAll ds ≤ 1048576)
def OpenSpec.upto (s : _root_.Go.ChangeSpec) : _root_.Go.OpenSpec := { _root_.Go.OpenSpec.ofChange s with cond := some uptoSmall }

/-- 'laws.FnExactSumOf', WHERE WHAT IT READS IS OF BULK AT MOST 1048576: true; the input reads as it did. -/
def fnExactSumOfUptoRow : OpenClaim := { program := "ytebiefhfhjgmaaa", sum := "bdd2e5a78f61c6301babc383b136cd38eb75c6a564b760406d28c59118415412", func := "loop.example/g00978/laws.FnExactSumOf", spec := "fnExactSumOf", apart := false, narrowed := true }
def FnExactSumOfUptoSaid : Prop := fnExactSumOfUptoRow.holds Try.pinned (OpenSpec.upto fnExactSumOfSpec)

/-- 'laws.FnExactFactsSame', WHERE WHAT IT READS IS OF BULK AT MOST 1048576: true; the input reads as it did. -/
def fnExactFactsSameUptoRow : OpenClaim := { program := "ytebiefhfhjgmaaa", sum := "bdd2e5a78f61c6301babc383b136cd38eb75c6a564b760406d28c59118415412", func := "loop.example/g00978/laws.FnExactFactsSame", spec := "fnExactFactsSame", apart := false, narrowed := true }
def FnExactFactsSameUptoSaid : Prop := fnExactFactsSameUptoRow.holds Try.pinned (OpenSpec.upto fnExactFactsSameSpec)

/-- 'laws.FnExactCodesWithoutMesh', WHERE WHAT IT READS IS OF BULK AT MOST 1048576: true; the input reads as it did. -/
def fnExactCodesWithoutMeshUptoRow : OpenClaim := { program := "ytebiefhfhjgmaaa", sum := "bdd2e5a78f61c6301babc383b136cd38eb75c6a564b760406d28c59118415412", func := "loop.example/g00978/laws.FnExactCodesWithoutMesh", spec := "fnExactCodesWithoutMesh", apart := false, narrowed := true }
def FnExactCodesWithoutMeshUptoSaid : Prop := fnExactCodesWithoutMeshUptoRow.holds Try.pinned (OpenSpec.upto fnExactCodesWithoutMeshSpec)

/-- 'laws.FnExactWithoutMesh', WHERE WHAT IT READS IS OF BULK AT MOST 1048576: true; the input reads as it did. -/
def fnExactWithoutMeshUptoRow : OpenClaim := { program := "ytebiefhfhjgmaaa", sum := "bdd2e5a78f61c6301babc383b136cd38eb75c6a564b760406d28c59118415412", func := "loop.example/g00978/laws.FnExactWithoutMesh", spec := "fnExactWithoutMesh", unfollowed := true, recurses := true, apart := false, narrowed := true }
def FnExactWithoutMeshUptoSaid : Prop := fnExactWithoutMeshUptoRow.holds Try.pinned (OpenSpec.upto fnExactWithoutMeshSpec)

/-- 'laws.FnExactParseAct', WHERE WHAT IT READS IS OF BULK AT MOST 1048576: true; the input reads as it did. -/
def fnExactParseActUptoRow : OpenClaim := { program := "ytebiefhfhjgmaaa", sum := "bdd2e5a78f61c6301babc383b136cd38eb75c6a564b760406d28c59118415412", func := "loop.example/g00978/laws.FnExactParseAct", spec := "fnExactParseAct", apart := false, narrowed := true }
def FnExactParseActUptoSaid : Prop := fnExactParseActUptoRow.holds Try.pinned (OpenSpec.upto fnExactParseActSpec)

end Rows
end Go.Proofs.Ytebiefhfhjgmaaa
