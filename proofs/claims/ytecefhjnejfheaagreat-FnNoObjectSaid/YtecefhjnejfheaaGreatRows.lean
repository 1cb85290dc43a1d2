/-
  No cell of these rows narrows 'for every input' (looked for: loops, veiled, ifaces, maps, wideKeys, modest, calm, conditions, laid).
  DERIVED. THE GIVEN ROWS OF THIS SEAT. 12 by the template 'for every input the law returns true; each argument reads behind the call as it read before'; 0 by the template 'total and deterministic' (their statements: YtecefhjnejfheaaGreatTotals.lean).
  GIVEN WITH THE SEED: the statements are not yours to turn. If you find one false, say at which input.
  Laid BY PROGRAM, IN A SANDBOX (cutbox-rows.mjs): the forced cells as the released guide's own fill.sh prints them over the translation ec6eaab2f1bd2ab1… (all of the seat's roots in one cut). By AI agents, Wed Nov 11 2026. No macro, syntax, notation, axiom, sorry.
-/
import Derived.Test.YtecefhjnejfheaaGreatChecked
import GoSem.Claim
import GoSem.ClaimJoined
import GoSem.ClaimMapViews
import Derived.JoinedTies
import Derived.KernelRfl
namespace Go.Proofs.YtecefhjnejfheaaGreat
/- THE CELL 'sum', in the pinned program and in every row, IS THE sha256 OF THE DUMP (.gsa) THAT YtecefhjnejfheaaGreatProg.lean LOADS. Nothing in Lean hashes anything: it is a label: what it is worth is what the hold of that sum in a sandbox is worth. -/
noncomputable def Tryz.pinned : Pinned := { name := "ytecefhjnejfheaagreat", sum := "ec6eaab2f1bd2ab1f7e44ff214686ad4b4305efaaa4a04ca2a29bf355bfbfee6", checked := Tryz.checked }
namespace Rows
def none {H : Type} : Left H := { results := [], args := [] }

/-- 'laws.FnLimits': WHATEVER THE INPUT: true; the input reads as it did. -/
def fnLimitsSpec : ChangeSpec := { name := "fnLimits", fn := fun _ => fun
  | [d] => { results := [.lit (.bool true)], args := [d] }
  | _ => none }
def fnLimitsRow : OpenClaim := { program := "ytecefhjnejfheaagreat", sum := "ec6eaab2f1bd2ab1f7e44ff214686ad4b4305efaaa4a04ca2a29bf355bfbfee6", func := "loop.example/g00978/laws.FnLimits", spec := "fnLimits", inPlace := ["slices.overlaps[loop.example/g00978/impl.Span]", "slices.overlaps[loop.example/g00978/impl.Large]", "slices.overlaps[loop.example/g00978/impl.Obj]"], unfollowed := true, recurses := true, apart := false }
def FnLimitsSaid : Prop := fnLimitsRow.holds Tryz.pinned (OpenSpec.ofChange fnLimitsSpec)

/-- ITS FALSE NEIGHBOUR: 'it returns false'. Refute it at one input. -/
def fnLimitsWrong : ChangeSpec := { name := "fnLimits", fn := fun _ => fun
  | [d] => { results := [.lit (.bool false)], args := [d] }
  | _ => none }
def FnLimitsWrongFalsely : Prop := fnLimitsRow.holds Tryz.pinned (OpenSpec.ofChange fnLimitsWrong)

/-- 'laws.FnDestroyed': WHATEVER THE INPUT: true; the input reads as it did. -/
def fnDestroyedSpec : ChangeSpec := { name := "fnDestroyed", fn := fun _ => fun
  | [d] => { results := [.lit (.bool true)], args := [d] }
  | _ => none }
def fnDestroyedRow : OpenClaim := { program := "ytecefhjnejfheaagreat", sum := "ec6eaab2f1bd2ab1f7e44ff214686ad4b4305efaaa4a04ca2a29bf355bfbfee6", func := "loop.example/g00978/laws.FnDestroyed", spec := "fnDestroyed", inPlace := ["slices.overlaps[loop.example/g00978/impl.Span]", "slices.overlaps[loop.example/g00978/impl.Large]", "slices.overlaps[loop.example/g00978/impl.Obj]"], unfollowed := true, recurses := true, apart := false }
def FnDestroyedSaid : Prop := fnDestroyedRow.holds Tryz.pinned (OpenSpec.ofChange fnDestroyedSpec)

/-- ITS FALSE NEIGHBOUR: 'it returns false'. Refute it at one input. -/
def fnDestroyedWrong : ChangeSpec := { name := "fnDestroyed", fn := fun _ => fun
  | [d] => { results := [.lit (.bool false)], args := [d] }
  | _ => none }
def FnDestroyedWrongFalsely : Prop := fnDestroyedRow.holds Tryz.pinned (OpenSpec.ofChange fnDestroyedWrong)

/-- 'laws.FnHard': WHATEVER THE INPUT: true; the input reads as it did. -/
def fnHardSpec : ChangeSpec := { name := "fnHard", fn := fun _ => fun
  | [d] => { results := [.lit (.bool true)], args := [d] }
  | _ => none }
def fnHardRow : OpenClaim := { program := "ytecefhjnejfheaagreat", sum := "ec6eaab2f1bd2ab1f7e44ff214686ad4b4305efaaa4a04ca2a29bf355bfbfee6", func := "loop.example/g00978/laws.FnHard", spec := "fnHard", inPlace := ["slices.overlaps[loop.example/g00978/impl.Span]", "slices.overlaps[loop.example/g00978/impl.Large]", "slices.overlaps[loop.example/g00978/impl.Obj]"], unfollowed := true, recurses := true, apart := false }
def FnHardSaid : Prop := fnHardRow.holds Tryz.pinned (OpenSpec.ofChange fnHardSpec)

/-- ITS FALSE NEIGHBOUR: 'it returns false'. Refute it at one input. -/
def fnHardWrong : ChangeSpec := { name := "fnHard", fn := fun _ => fun
  | [d] => { results := [.lit (.bool false)], args := [d] }
  | _ => none }
def FnHardWrongFalsely : Prop := fnHardRow.holds Tryz.pinned (OpenSpec.ofChange fnHardWrong)

/-- 'laws.FnAllocated': WHATEVER THE INPUT: true; the input reads as it did. -/
def fnAllocatedSpec : ChangeSpec := { name := "fnAllocated", fn := fun _ => fun
  | [d] => { results := [.lit (.bool true)], args := [d] }
  | _ => none }
def fnAllocatedRow : OpenClaim := { program := "ytecefhjnejfheaagreat", sum := "ec6eaab2f1bd2ab1f7e44ff214686ad4b4305efaaa4a04ca2a29bf355bfbfee6", func := "loop.example/g00978/laws.FnAllocated", spec := "fnAllocated", inPlace := ["slices.overlaps[loop.example/g00978/impl.Span]", "slices.overlaps[loop.example/g00978/impl.Large]", "slices.overlaps[loop.example/g00978/impl.Obj]"], unfollowed := true, recurses := true, apart := false }
def FnAllocatedSaid : Prop := fnAllocatedRow.holds Tryz.pinned (OpenSpec.ofChange fnAllocatedSpec)

/-- ITS FALSE NEIGHBOUR: 'it returns false'. Refute it at one input. -/
def fnAllocatedWrong : ChangeSpec := { name := "fnAllocated", fn := fun _ => fun
  | [d] => { results := [.lit (.bool false)], args := [d] }
  | _ => none }
def FnAllocatedWrongFalsely : Prop := fnAllocatedRow.holds Tryz.pinned (OpenSpec.ofChange fnAllocatedWrong)

/-- 'laws.FnCleared': WHATEVER THE INPUT: true; the input reads as it did. -/
def fnClearedSpec : ChangeSpec := { name := "fnCleared", fn := fun _ => fun
  | [d] => { results := [.lit (.bool true)], args := [d] }
  | _ => none }
def fnClearedRow : OpenClaim := { program := "ytecefhjnejfheaagreat", sum := "ec6eaab2f1bd2ab1f7e44ff214686ad4b4305efaaa4a04ca2a29bf355bfbfee6", func := "loop.example/g00978/laws.FnCleared", spec := "fnCleared", unfollowed := true, recurses := true, apart := false }
def FnClearedSaid : Prop := fnClearedRow.holds Tryz.pinned (OpenSpec.ofChange fnClearedSpec)

/-- ITS FALSE NEIGHBOUR: 'it returns false'. Refute it at one input. -/
def fnClearedWrong : ChangeSpec := { name := "fnCleared", fn := fun _ => fun
  | [d] => { results := [.lit (.bool false)], args := [d] }
  | _ => none }
def FnClearedWrongFalsely : Prop := fnClearedRow.holds Tryz.pinned (OpenSpec.ofChange fnClearedWrong)

/-- 'laws.FnFacts': WHATEVER THE INPUT: true; the input reads as it did. -/
def fnFactsSpec : ChangeSpec := { name := "fnFacts", fn := fun _ => fun
  | [d] => { results := [.lit (.bool true)], args := [d] }
  | _ => none }
def fnFactsRow : OpenClaim := { program := "ytecefhjnejfheaagreat", sum := "ec6eaab2f1bd2ab1f7e44ff214686ad4b4305efaaa4a04ca2a29bf355bfbfee6", func := "loop.example/g00978/laws.FnFacts", spec := "fnFacts", unfollowed := true, recurses := true, apart := false }
def FnFactsSaid : Prop := fnFactsRow.holds Tryz.pinned (OpenSpec.ofChange fnFactsSpec)

/-- ITS FALSE NEIGHBOUR: 'it returns false'. Refute it at one input. -/
def fnFactsWrong : ChangeSpec := { name := "fnFacts", fn := fun _ => fun
  | [d] => { results := [.lit (.bool false)], args := [d] }
  | _ => none }
def FnFactsWrongFalsely : Prop := fnFactsRow.holds Tryz.pinned (OpenSpec.ofChange fnFactsWrong)

/-- 'laws.FnNoObject': WHATEVER THE INPUT: true; the input reads as it did. -/
def fnNoObjectSpec : ChangeSpec := { name := "fnNoObject", fn := fun _ => fun
  | [d] => { results := [.lit (.bool true)], args := [d] }
  | _ => none }
def fnNoObjectRow : OpenClaim := { program := "ytecefhjnejfheaagreat", sum := "ec6eaab2f1bd2ab1f7e44ff214686ad4b4305efaaa4a04ca2a29bf355bfbfee6", func := "loop.example/g00978/laws.FnNoObject", spec := "fnNoObject", inPlace := ["slices.overlaps[loop.example/g00978/impl.Span]", "slices.overlaps[loop.example/g00978/impl.Large]", "slices.overlaps[loop.example/g00978/impl.Obj]"], unfollowed := true, recurses := true, apart := false }
def FnNoObjectSaid : Prop := fnNoObjectRow.holds Tryz.pinned (OpenSpec.ofChange fnNoObjectSpec)

/-- ITS FALSE NEIGHBOUR: 'it returns false'. Refute it at one input. -/
def fnNoObjectWrong : ChangeSpec := { name := "fnNoObject", fn := fun _ => fun
  | [d] => { results := [.lit (.bool false)], args := [d] }
  | _ => none }
def FnNoObjectWrongFalsely : Prop := fnNoObjectRow.holds Tryz.pinned (OpenSpec.ofChange fnNoObjectWrong)

/-- 'laws.FnMeshed': WHATEVER THE INPUT: true; the input reads as it did. -/
def fnMeshedSpec : ChangeSpec := { name := "fnMeshed", fn := fun _ => fun
  | [d] => { results := [.lit (.bool true)], args := [d] }
  | _ => none }
def fnMeshedRow : OpenClaim := { program := "ytecefhjnejfheaagreat", sum := "ec6eaab2f1bd2ab1f7e44ff214686ad4b4305efaaa4a04ca2a29bf355bfbfee6", func := "loop.example/g00978/laws.FnMeshed", spec := "fnMeshed", unfollowed := true, recurses := true, apart := false }
def FnMeshedSaid : Prop := fnMeshedRow.holds Tryz.pinned (OpenSpec.ofChange fnMeshedSpec)

/-- ITS FALSE NEIGHBOUR: 'it returns false'. Refute it at one input. -/
def fnMeshedWrong : ChangeSpec := { name := "fnMeshed", fn := fun _ => fun
  | [d] => { results := [.lit (.bool false)], args := [d] }
  | _ => none }
def FnMeshedWrongFalsely : Prop := fnMeshedRow.holds Tryz.pinned (OpenSpec.ofChange fnMeshedWrong)

/-- 'laws.FnMeshSteps': WHATEVER THE INPUT: true; the input reads as it did. -/
def fnMeshStepsSpec : ChangeSpec := { name := "fnMeshSteps", fn := fun _ => fun
  | [d] => { results := [.lit (.bool true)], args := [d] }
  | _ => none }
def fnMeshStepsRow : OpenClaim := { program := "ytecefhjnejfheaagreat", sum := "ec6eaab2f1bd2ab1f7e44ff214686ad4b4305efaaa4a04ca2a29bf355bfbfee6", func := "loop.example/g00978/laws.FnMeshSteps", spec := "fnMeshSteps", unfollowed := true, recurses := true, apart := false }
def FnMeshStepsSaid : Prop := fnMeshStepsRow.holds Tryz.pinned (OpenSpec.ofChange fnMeshStepsSpec)

/-- ITS FALSE NEIGHBOUR: 'it returns false'. Refute it at one input. -/
def fnMeshStepsWrong : ChangeSpec := { name := "fnMeshSteps", fn := fun _ => fun
  | [d] => { results := [.lit (.bool false)], args := [d] }
  | _ => none }
def FnMeshStepsWrongFalsely : Prop := fnMeshStepsRow.holds Tryz.pinned (OpenSpec.ofChange fnMeshStepsWrong)

/-- 'laws.FnRelieved': WHATEVER THE INPUT: true; the input reads as it did. -/
def fnRelievedSpec : ChangeSpec := { name := "fnRelieved", fn := fun _ => fun
  | [d] => { results := [.lit (.bool true)], args := [d] }
  | _ => none }
def fnRelievedRow : OpenClaim := { program := "ytecefhjnejfheaagreat", sum := "ec6eaab2f1bd2ab1f7e44ff214686ad4b4305efaaa4a04ca2a29bf355bfbfee6", func := "loop.example/g00978/laws.FnRelieved", spec := "fnRelieved", unfollowed := true, recurses := true, apart := false }
def FnRelievedSaid : Prop := fnRelievedRow.holds Tryz.pinned (OpenSpec.ofChange fnRelievedSpec)

/-- ITS FALSE NEIGHBOUR: 'it returns false'. Refute it at one input. -/
def fnRelievedWrong : ChangeSpec := { name := "fnRelieved", fn := fun _ => fun
  | [d] => { results := [.lit (.bool false)], args := [d] }
  | _ => none }
def FnRelievedWrongFalsely : Prop := fnRelievedRow.holds Tryz.pinned (OpenSpec.ofChange fnRelievedWrong)

/-- 'laws.FnFreed': WHATEVER THE INPUT: true; the input reads as it did. -/
def fnFreedSpec : ChangeSpec := { name := "fnFreed", fn := fun _ => fun
  | [d] => { results := [.lit (.bool true)], args := [d] }
  | _ => none }
def fnFreedRow : OpenClaim := { program := "ytecefhjnejfheaagreat", sum := "ec6eaab2f1bd2ab1f7e44ff214686ad4b4305efaaa4a04ca2a29bf355bfbfee6", func := "loop.example/g00978/laws.FnFreed", spec := "fnFreed", unfollowed := true, recurses := true, apart := false }
def FnFreedSaid : Prop := fnFreedRow.holds Tryz.pinned (OpenSpec.ofChange fnFreedSpec)

/-- ITS FALSE NEIGHBOUR: 'it returns false'. Refute it at one input. -/
def fnFreedWrong : ChangeSpec := { name := "fnFreed", fn := fun _ => fun
  | [d] => { results := [.lit (.bool false)], args := [d] }
  | _ => none }
def FnFreedWrongFalsely : Prop := fnFreedRow.holds Tryz.pinned (OpenSpec.ofChange fnFreedWrong)

/-- 'laws.FnExactAllocHard': WHATEVER THE INPUT: true; the input reads as it did. -/
def fnExactAllocHardSpec : ChangeSpec := { name := "fnExactAllocHard", fn := fun _ => fun
  | [d1, d2, d3] => { results := [.lit (.bool true)], args := [d1, d2, d3] }
  | _ => none }
def fnExactAllocHardRow : OpenClaim := { program := "ytecefhjnejfheaagreat", sum := "ec6eaab2f1bd2ab1f7e44ff214686ad4b4305efaaa4a04ca2a29bf355bfbfee6", func := "loop.example/g00978/laws.FnExactAllocHard", spec := "fnExactAllocHard", inPlace := ["slices.overlaps[loop.example/g00978/impl.Span]", "slices.overlaps[loop.example/g00978/impl.Large]", "slices.overlaps[loop.example/g00978/impl.Obj]"], unfollowed := true, recurses := true, apart := false }
def FnExactAllocHardSaid : Prop := fnExactAllocHardRow.holds Tryz.pinned (OpenSpec.ofChange fnExactAllocHardSpec)

/-- ITS FALSE NEIGHBOUR: 'it returns false'. Refute it at one input. -/
def fnExactAllocHardWrong : ChangeSpec := { name := "fnExactAllocHard", fn := fun _ => fun
  | [d1, d2, d3] => { results := [.lit (.bool false)], args := [d1, d2, d3] }
  | _ => none }
def FnExactAllocHardWrongFalsely : Prop := fnExactAllocHardRow.holds Tryz.pinned (OpenSpec.ofChange fnExactAllocHardWrong)

/- THE SECOND FORM. 'bulk': how many values and letters a reading holds, each counted each time it is reached (what is shared counts as often as it is met; a slice's spare places count too). A statement '..UptoSaid' is the law's where the arguments, and the package variables that the reading takes, are together of bulk at most 1048576: NARROWER than '..Said'. Prove '..Said' where nothing that the law and all that it calls make is longer than what came in: it says more and counts as full. Else prove '..UptoSaid'. A law counts once. -/
mutual
def uptoBulk {H : Type} : DataW H → Nat
  | .lit (.string bytes) => bytes.length + 1
  | .lit _ => 1
  | .nil => 1
  | .ptr d => uptoBulk d + 1
  | .slice elems spare => uptoBulkAll elems + uptoBulkAll spare + 1
  | .agg parts => uptoBulkAll parts + 1
  | .iface _ d => uptoBulk d + 1
  | .map entries => uptoBulkEntries entries + 1
  | .held _ => 1
def uptoBulkAll {H : Type} : List (DataW H) → Nat
  | [] => 0
  | d :: r => uptoBulk d + uptoBulkAll r
def uptoBulkEntries {H : Type} : List (Lit × DataW H) → Nat
  | [] => 0
  | x :: r => uptoBulkEntry x + uptoBulkEntries r
def uptoBulkEntry {H : Type} : Lit × DataW H → Nat
  | (.string bytes, d) => bytes.length + uptoBulk d + 1
  | (_, d) => uptoBulk d + 1
 end
def uptoSmall : (H : Type) → List (DataW H) → Bool := fun _ ds => decide (uptoBulkAll ds ≤ 1048576)
def OpenSpec.upto (s : _root_.Go.ChangeSpec) : _root_.Go.OpenSpec := { _root_.Go.OpenSpec.ofChange s with cond := some uptoSmall }

/-- 'laws.FnLimits', WHERE WHAT IT READS IS OF BULK AT MOST 1048576: true; the input reads as it did. -/
def fnLimitsUptoRow : OpenClaim := { program := "ytecefhjnejfheaagreat", sum := "ec6eaab2f1bd2ab1f7e44ff214686ad4b4305efaaa4a04ca2a29bf355bfbfee6", func := "loop.example/g00978/laws.FnLimits", spec := "fnLimits", inPlace := ["slices.overlaps[loop.example/g00978/impl.Span]", "slices.overlaps[loop.example/g00978/impl.Large]", "slices.overlaps[loop.example/g00978/impl.Obj]"], unfollowed := true, recurses := true, apart := false, narrowed := true }
def FnLimitsUptoSaid : Prop := fnLimitsUptoRow.holds Tryz.pinned (OpenSpec.upto fnLimitsSpec)

/-- 'laws.FnDestroyed', WHERE WHAT IT READS IS OF BULK AT MOST 1048576: true; the input reads as it did. -/
def fnDestroyedUptoRow : OpenClaim := { program := "ytecefhjnejfheaagreat", sum := "ec6eaab2f1bd2ab1f7e44ff214686ad4b4305efaaa4a04ca2a29bf355bfbfee6", func := "loop.example/g00978/laws.FnDestroyed", spec := "fnDestroyed", inPlace := ["slices.overlaps[loop.example/g00978/impl.Span]", "slices.overlaps[loop.example/g00978/impl.Large]", "slices.overlaps[loop.example/g00978/impl.Obj]"], unfollowed := true, recurses := true, apart := false, narrowed := true }
def FnDestroyedUptoSaid : Prop := fnDestroyedUptoRow.holds Tryz.pinned (OpenSpec.upto fnDestroyedSpec)

/-- 'laws.FnHard', WHERE WHAT IT READS IS OF BULK AT MOST 1048576: true; the input reads as it did. -/
def fnHardUptoRow : OpenClaim := { program := "ytecefhjnejfheaagreat", sum := "ec6eaab2f1bd2ab1f7e44ff214686ad4b4305efaaa4a04ca2a29bf355bfbfee6", func := "loop.example/g00978/laws.FnHard", spec := "fnHard", inPlace := ["slices.overlaps[loop.example/g00978/impl.Span]", "slices.overlaps[loop.example/g00978/impl.Large]", "slices.overlaps[loop.example/g00978/impl.Obj]"], unfollowed := true, recurses := true, apart := false, narrowed := true }
def FnHardUptoSaid : Prop := fnHardUptoRow.holds Tryz.pinned (OpenSpec.upto fnHardSpec)

/-- 'laws.FnAllocated', WHERE WHAT IT READS IS OF BULK AT MOST 1048576: true; the input reads as it did. -/
def fnAllocatedUptoRow : OpenClaim := { program := "ytecefhjnejfheaagreat", sum := "ec6eaab2f1bd2ab1f7e44ff214686ad4b4305efaaa4a04ca2a29bf355bfbfee6", func := "loop.example/g00978/laws.FnAllocated", spec := "fnAllocated", inPlace := ["slices.overlaps[loop.example/g00978/impl.Span]", "slices.overlaps[loop.example/g00978/impl.Large]", "slices.overlaps[loop.example/g00978/impl.Obj]"], unfollowed := true, recurses := true, apart := false, narrowed := true }
def FnAllocatedUptoSaid : Prop := fnAllocatedUptoRow.holds Tryz.pinned (OpenSpec.upto fnAllocatedSpec)

/-- 'laws.FnCleared', WHERE WHAT IT READS IS OF BULK AT MOST 1048576: true; the input reads as it did. -/
def fnClearedUptoRow : OpenClaim := { program := "ytecefhjnejfheaagreat", sum := "ec6eaab2f1bd2ab1f7e44ff214686ad4b4305efaaa4a04ca2a29bf355bfbfee6", func := "loop.example/g00978/laws.FnCleared", spec := "fnCleared", unfollowed := true, recurses := true, apart := false, narrowed := true }
def FnClearedUptoSaid : Prop := fnClearedUptoRow.holds Tryz.pinned (OpenSpec.upto fnClearedSpec)

/-- 'laws.FnFacts', WHERE WHAT IT READS IS OF BULK AT MOST 1048576: true; the input reads as it did. -/
def fnFactsUptoRow : OpenClaim := { program := "ytecefhjnejfheaagreat", sum := "ec6eaab2f1bd2ab1f7e44ff214686ad4b4305efaaa4a04ca2a29bf355bfbfee6", func := "loop.example/g00978/laws.FnFacts", spec := "fnFacts", unfollowed := true, recurses := true, apart := false, narrowed := true }
def FnFactsUptoSaid : Prop := fnFactsUptoRow.holds Tryz.pinned (OpenSpec.upto fnFactsSpec)

/-- 'laws.FnNoObject', WHERE WHAT IT READS IS OF BULK AT MOST 1048576: true; the input reads as it did. -/
def fnNoObjectUptoRow : OpenClaim := { program := "ytecefhjnejfheaagreat", sum := "ec6eaab2f1bd2ab1f7e44ff214686ad4b4305efaaa4a04ca2a29bf355bfbfee6", func := "loop.example/g00978/laws.FnNoObject", spec := "fnNoObject", inPlace := ["slices.overlaps[loop.example/g00978/impl.Span]", "slices.overlaps[loop.example/g00978/impl.Large]", "slices.overlaps[loop.example/g00978/impl.Obj]"], unfollowed := true, recurses := true, apart := false, narrowed := true }
def FnNoObjectUptoSaid : Prop := fnNoObjectUptoRow.holds Tryz.pinned (OpenSpec.upto fnNoObjectSpec)

/-- 'laws.FnMeshed', WHERE WHAT IT READS IS OF BULK AT MOST 1048576: true; the input reads as it did. -/
def fnMeshedUptoRow : OpenClaim := { program := "ytecefhjnejfheaagreat", sum := "ec6eaab2f1bd2ab1f7e44ff214686ad4b4305efaaa4a04ca2a29bf355bfbfee6", func := "loop.example/g00978/laws.FnMeshed", spec := "fnMeshed", unfollowed := true, recurses := true, apart := false, narrowed := true }
def FnMeshedUptoSaid : Prop := fnMeshedUptoRow.holds Tryz.pinned (OpenSpec.upto fnMeshedSpec)

/-- 'laws.FnMeshSteps', WHERE WHAT IT READS IS OF BULK AT MOST 1048576: true; the input reads as it did. -/
def fnMeshStepsUptoRow : OpenClaim := { program := "ytecefhjnejfheaagreat", sum := "ec6eaab2f1bd2ab1f7e44ff214686ad4b4305efaaa4a04ca2a29bf355bfbfee6", func := "loop.example/g00978/laws.FnMeshSteps", spec := "fnMeshSteps", unfollowed := true, recurses := true, apart := false, narrowed := true }
def FnMeshStepsUptoSaid : Prop := fnMeshStepsUptoRow.holds Tryz.pinned (OpenSpec.upto fnMeshStepsSpec)

/-- 'laws.FnRelieved', WHERE WHAT IT READS IS OF BULK AT MOST 1048576: true; the input reads as it did. -/
def fnRelievedUptoRow : OpenClaim := { program := "ytecefhjnejfheaagreat", sum := "ec6eaab2f1bd2ab1f7e44ff214686ad4b4305efaaa4a04ca2a29bf355bfbfee6", func := "loop.example/g00978/laws.FnRelieved", spec := "fnRelieved", unfollowed := true, recurses := true, apart := false, narrowed := true }
def FnRelievedUptoSaid : Prop := fnRelievedUptoRow.holds Tryz.pinned (OpenSpec.upto fnRelievedSpec)

/-- 'laws.FnFreed', WHERE WHAT IT READS IS OF BULK AT MOST 1048576: true; the input reads as it did. -/
def fnFreedUptoRow : OpenClaim := { program := "ytecefhjnejfheaagreat", sum := "ec6eaab2f1bd2ab1f7e44ff214686ad4b4305efaaa4a04ca2a29bf355bfbfee6", func := "loop.example/g00978/laws.FnFreed", spec := "fnFreed", unfollowed := true, recurses := true, apart := false, narrowed := true }
def FnFreedUptoSaid : Prop := fnFreedUptoRow.holds Tryz.pinned (OpenSpec.upto fnFreedSpec)

/-- 'laws.FnExactAllocHard', WHERE WHAT IT READS IS OF BULK AT MOST 1048576: true; the input reads as it did. -/
def fnExactAllocHardUptoRow : OpenClaim := { program := "ytecefhjnejfheaagreat", sum := "ec6eaab2f1bd2ab1f7e44ff214686ad4b4305efaaa4a04ca2a29bf355bfbfee6", func := "loop.example/g00978/laws.FnExactAllocHard", spec := "fnExactAllocHard", inPlace := ["slices.overlaps[loop.example/g00978/impl.Span]", "slices.overlaps[loop.example/g00978/impl.Large]", "slices.overlaps[loop.example/g00978/impl.Obj]"], unfollowed := true, recurses := true, apart := false, narrowed := true }
def FnExactAllocHardUptoSaid : Prop := fnExactAllocHardUptoRow.holds Tryz.pinned (OpenSpec.upto fnExactAllocHardSpec)

end Rows
end Go.Proofs.YtecefhjnejfheaaGreat
