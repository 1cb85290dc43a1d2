/-
  No cell of these rows narrows 'for every input' (looked for: loops, veiled, ifaces, maps, wideKeys, modest, calm, conditions, laid).
  DERIVED. THE GIVEN ROWS OF THIS SEAT. 11 by the template 'for every input the law returns true; each argument reads behind the call as it read before'; 0 by the template 'total and deterministic' (their statements: YtiopgblagimpmaaGreatTotals.lean).
  GIVEN WITH THE SEED: the statements are not yours to turn. If you find one false, say at which input.
  Laid BY PROGRAM, IN A SANDBOX (cutbox-rows.mjs): the forced cells as the released guide's own fill.sh prints them over the translation 7f67971478dc76fb… (all of the seat's roots in one cut). By AI agents, Wed Nov 11 2026. No macro, syntax, notation, axiom, sorry.
-/
import Derived.Test.YtiopgblagimpmaaGreatChecked
import GoSem.Claim
import GoSem.ClaimJoined
import GoSem.ClaimMapViews
import Derived.JoinedTies
import Derived.KernelRfl
namespace Go.Proofs.YtiopgblagimpmaaGreat
/- THE CELL 'sum', in the pinned program and in every row, IS THE sha256 OF THE DUMP (.gsa) THAT YtiopgblagimpmaaGreatProg.lean LOADS. Nothing in Lean hashes anything: it is a label: what it is worth is what the hold of that sum in a sandbox is worth. -/
noncomputable def Tryz.pinned : Pinned := { name := "ytiopgblagimpmaagreat", sum := "7f67971478dc76fbccc903b80c338c499d1f0adec04d363d55a62c42864d04dc", checked := Tryz.checked }
namespace Rows
def none {H : Type} : Left H := { results := [], args := [] }

/-- 'laws.FnLimits': WHATEVER THE INPUT: true; the input reads as it did. -/
def fnLimitsSpec : ChangeSpec := { name := "fnLimits", fn := fun _ => fun
  | [d] => { results := [.lit (.bool true)], args := [d] }
  | _ => none }
def fnLimitsRow : OpenClaim := { program := "ytiopgblagimpmaagreat", sum := "7f67971478dc76fbccc903b80c338c499d1f0adec04d363d55a62c42864d04dc", func := "loop.example/g00978/laws.FnLimits", spec := "fnLimits", inPlace := ["slices.overlaps[loop.example/g00978/impl.Span]", "slices.overlaps[loop.example/g00978/impl.Large]", "slices.overlaps[loop.example/g00978/impl.Obj]"], unfollowed := true, recurses := true, apart := false }
def FnLimitsSaid : Prop := fnLimitsRow.holds Tryz.pinned (OpenSpec.ofChange fnLimitsSpec)

/-- ITS FALSE NEIGHBOUR: 'it returns false'. Refute it at one input. -/
def fnLimitsWrong : ChangeSpec := { name := "fnLimits", fn := fun _ => fun
  | [d] => { results := [.lit (.bool false)], args := [d] }
  | _ => none }
def FnLimitsWrongFalsely : Prop := fnLimitsRow.holds Tryz.pinned (OpenSpec.ofChange fnLimitsWrong)

/-- 'laws.FnDestroyed': WHATEVER THE INPUT: true; the input reads as it did. -/
def fnDestroyedSpec : ChangeSpec := { name := "fnDestroyed", fn := fun _ => fun
  | [d] => { results := [.lit (.bool true)], args := [d] }
  | _ => none }
def fnDestroyedRow : OpenClaim := { program := "ytiopgblagimpmaagreat", sum := "7f67971478dc76fbccc903b80c338c499d1f0adec04d363d55a62c42864d04dc", func := "loop.example/g00978/laws.FnDestroyed", spec := "fnDestroyed", inPlace := ["slices.overlaps[loop.example/g00978/impl.Span]", "slices.overlaps[loop.example/g00978/impl.Large]", "slices.overlaps[loop.example/g00978/impl.Obj]"], unfollowed := true, recurses := true, apart := false }
def FnDestroyedSaid : Prop := fnDestroyedRow.holds Tryz.pinned (OpenSpec.ofChange fnDestroyedSpec)

/-- ITS FALSE NEIGHBOUR: 'it returns false'. Refute it at one input. -/
def fnDestroyedWrong : ChangeSpec := { name := "fnDestroyed", fn := fun _ => fun
  | [d] => { results := [.lit (.bool false)], args := [d] }
  | _ => none }
def FnDestroyedWrongFalsely : Prop := fnDestroyedRow.holds Tryz.pinned (OpenSpec.ofChange fnDestroyedWrong)

/-- 'laws.FnHard': WHATEVER THE INPUT: true; the input reads as it did. -/
def fnHardSpec : ChangeSpec := { name := "fnHard", fn := fun _ => fun
  | [d] => { results := [.lit (.bool true)], args := [d] }
  | _ => none }
def fnHardRow : OpenClaim := { program := "ytiopgblagimpmaagreat", sum := "7f67971478dc76fbccc903b80c338c499d1f0adec04d363d55a62c42864d04dc", func := "loop.example/g00978/laws.FnHard", spec := "fnHard", inPlace := ["slices.overlaps[loop.example/g00978/impl.Span]", "slices.overlaps[loop.example/g00978/impl.Large]", "slices.overlaps[loop.example/g00978/impl.Obj]"], unfollowed := true, recurses := true, apart := false }
def FnHardSaid : Prop := fnHardRow.holds Tryz.pinned (OpenSpec.ofChange fnHardSpec)

/-- ITS FALSE NEIGHBOUR: 'it returns false'. Refute it at one input. -/
def fnHardWrong : ChangeSpec := { name := "fnHard", fn := fun _ => fun
  | [d] => { results := [.lit (.bool false)], args := [d] }
  | _ => none }
def FnHardWrongFalsely : Prop := fnHardRow.holds Tryz.pinned (OpenSpec.ofChange fnHardWrong)

/-- 'laws.FnAllocated': WHATEVER THE INPUT: true; the input reads as it did. -/
def fnAllocatedSpec : ChangeSpec := { name := "fnAllocated", fn := fun _ => fun
  | [d] => { results := [.lit (.bool true)], args := [d] }
  | _ => none }
def fnAllocatedRow : OpenClaim := { program := "ytiopgblagimpmaagreat", sum := "7f67971478dc76fbccc903b80c338c499d1f0adec04d363d55a62c42864d04dc", func := "loop.example/g00978/laws.FnAllocated", spec := "fnAllocated", inPlace := ["slices.overlaps[loop.example/g00978/impl.Span]", "slices.overlaps[loop.example/g00978/impl.Large]", "slices.overlaps[loop.example/g00978/impl.Obj]"], unfollowed := true, recurses := true, apart := false }
def FnAllocatedSaid : Prop := fnAllocatedRow.holds Tryz.pinned (OpenSpec.ofChange fnAllocatedSpec)

/-- ITS FALSE NEIGHBOUR: 'it returns false'. Refute it at one input. -/
def fnAllocatedWrong : ChangeSpec := { name := "fnAllocated", fn := fun _ => fun
  | [d] => { results := [.lit (.bool false)], args := [d] }
  | _ => none }
def FnAllocatedWrongFalsely : Prop := fnAllocatedRow.holds Tryz.pinned (OpenSpec.ofChange fnAllocatedWrong)

/-- 'laws.FnRelieved': WHATEVER THE INPUT: true; the input reads as it did. -/
def fnRelievedSpec : ChangeSpec := { name := "fnRelieved", fn := fun _ => fun
  | [d] => { results := [.lit (.bool true)], args := [d] }
  | _ => none }
def fnRelievedRow : OpenClaim := { program := "ytiopgblagimpmaagreat", sum := "7f67971478dc76fbccc903b80c338c499d1f0adec04d363d55a62c42864d04dc", func := "loop.example/g00978/laws.FnRelieved", spec := "fnRelieved", unfollowed := true, recurses := true, apart := false }
def FnRelievedSaid : Prop := fnRelievedRow.holds Tryz.pinned (OpenSpec.ofChange fnRelievedSpec)

/-- ITS FALSE NEIGHBOUR: 'it returns false'. Refute it at one input. -/
def fnRelievedWrong : ChangeSpec := { name := "fnRelieved", fn := fun _ => fun
  | [d] => { results := [.lit (.bool false)], args := [d] }
  | _ => none }
def FnRelievedWrongFalsely : Prop := fnRelievedRow.holds Tryz.pinned (OpenSpec.ofChange fnRelievedWrong)

/-- 'laws.FnFreed': WHATEVER THE INPUT: true; the input reads as it did. -/
def fnFreedSpec : ChangeSpec := { name := "fnFreed", fn := fun _ => fun
  | [d] => { results := [.lit (.bool true)], args := [d] }
  | _ => none }
def fnFreedRow : OpenClaim := { program := "ytiopgblagimpmaagreat", sum := "7f67971478dc76fbccc903b80c338c499d1f0adec04d363d55a62c42864d04dc", func := "loop.example/g00978/laws.FnFreed", spec := "fnFreed", unfollowed := true, recurses := true, apart := false }
def FnFreedSaid : Prop := fnFreedRow.holds Tryz.pinned (OpenSpec.ofChange fnFreedSpec)

/-- ITS FALSE NEIGHBOUR: 'it returns false'. Refute it at one input. -/
def fnFreedWrong : ChangeSpec := { name := "fnFreed", fn := fun _ => fun
  | [d] => { results := [.lit (.bool false)], args := [d] }
  | _ => none }
def FnFreedWrongFalsely : Prop := fnFreedRow.holds Tryz.pinned (OpenSpec.ofChange fnFreedWrong)

/-- 'laws.FnPeak': WHATEVER THE INPUT: true; the input reads as it did. -/
def fnPeakSpec : ChangeSpec := { name := "fnPeak", fn := fun _ => fun
  | [d] => { results := [.lit (.bool true)], args := [d] }
  | _ => none }
def fnPeakRow : OpenClaim := { program := "ytiopgblagimpmaagreat", sum := "7f67971478dc76fbccc903b80c338c499d1f0adec04d363d55a62c42864d04dc", func := "loop.example/g00978/laws.FnPeak", spec := "fnPeak", inPlace := ["slices.overlaps[loop.example/g00978/impl.Span]", "slices.overlaps[loop.example/g00978/impl.Large]", "slices.overlaps[loop.example/g00978/impl.Obj]"], unfollowed := true, recurses := true, apart := false }
def FnPeakSaid : Prop := fnPeakRow.holds Tryz.pinned (OpenSpec.ofChange fnPeakSpec)

/-- ITS FALSE NEIGHBOUR: 'it returns false'. Refute it at one input. -/
def fnPeakWrong : ChangeSpec := { name := "fnPeak", fn := fun _ => fun
  | [d] => { results := [.lit (.bool false)], args := [d] }
  | _ => none }
def FnPeakWrongFalsely : Prop := fnPeakRow.holds Tryz.pinned (OpenSpec.ofChange fnPeakWrong)

/-- 'laws.FnInvisible': WHATEVER THE INPUT: true; the input reads as it did. -/
def fnInvisibleSpec : ChangeSpec := { name := "fnInvisible", fn := fun _ => fun
  | [d] => { results := [.lit (.bool true)], args := [d] }
  | _ => none }
def fnInvisibleRow : OpenClaim := { program := "ytiopgblagimpmaagreat", sum := "7f67971478dc76fbccc903b80c338c499d1f0adec04d363d55a62c42864d04dc", func := "loop.example/g00978/laws.FnInvisible", spec := "fnInvisible", inPlace := ["slices.overlaps[loop.example/g00978/impl.Span]", "slices.overlaps[loop.example/g00978/impl.Large]", "slices.overlaps[loop.example/g00978/impl.Obj]"], unfollowed := true, recurses := true, apart := false }
def FnInvisibleSaid : Prop := fnInvisibleRow.holds Tryz.pinned (OpenSpec.ofChange fnInvisibleSpec)

/-- ITS FALSE NEIGHBOUR: 'it returns false'. Refute it at one input. -/
def fnInvisibleWrong : ChangeSpec := { name := "fnInvisible", fn := fun _ => fun
  | [d] => { results := [.lit (.bool false)], args := [d] }
  | _ => none }
def FnInvisibleWrongFalsely : Prop := fnInvisibleRow.holds Tryz.pinned (OpenSpec.ofChange fnInvisibleWrong)

/-- 'laws.FnRefused': WHATEVER THE INPUT: true; the input reads as it did. -/
def fnRefusedSpec : ChangeSpec := { name := "fnRefused", fn := fun _ => fun
  | [d] => { results := [.lit (.bool true)], args := [d] }
  | _ => none }
def fnRefusedRow : OpenClaim := { program := "ytiopgblagimpmaagreat", sum := "7f67971478dc76fbccc903b80c338c499d1f0adec04d363d55a62c42864d04dc", func := "loop.example/g00978/laws.FnRefused", spec := "fnRefused", inPlace := ["slices.overlaps[loop.example/g00978/impl.Span]", "slices.overlaps[loop.example/g00978/impl.Large]", "slices.overlaps[loop.example/g00978/impl.Obj]"], unfollowed := true, recurses := true, apart := false }
def FnRefusedSaid : Prop := fnRefusedRow.holds Tryz.pinned (OpenSpec.ofChange fnRefusedSpec)

/-- ITS FALSE NEIGHBOUR: 'it returns false'. Refute it at one input. -/
def fnRefusedWrong : ChangeSpec := { name := "fnRefused", fn := fun _ => fun
  | [d] => { results := [.lit (.bool false)], args := [d] }
  | _ => none }
def FnRefusedWrongFalsely : Prop := fnRefusedRow.holds Tryz.pinned (OpenSpec.ofChange fnRefusedWrong)

/-- 'laws.FnExactAllocHard': WHATEVER THE INPUT: true; the input reads as it did. -/
def fnExactAllocHardSpec : ChangeSpec := { name := "fnExactAllocHard", fn := fun _ => fun
  | [d1, d2, d3] => { results := [.lit (.bool true)], args := [d1, d2, d3] }
  | _ => none }
def fnExactAllocHardRow : OpenClaim := { program := "ytiopgblagimpmaagreat", sum := "7f67971478dc76fbccc903b80c338c499d1f0adec04d363d55a62c42864d04dc", func := "loop.example/g00978/laws.FnExactAllocHard", spec := "fnExactAllocHard", inPlace := ["slices.overlaps[loop.example/g00978/impl.Span]", "slices.overlaps[loop.example/g00978/impl.Large]", "slices.overlaps[loop.example/g00978/impl.Obj]"], unfollowed := true, recurses := true, apart := false }
def FnExactAllocHardSaid : Prop := fnExactAllocHardRow.holds Tryz.pinned (OpenSpec.ofChange fnExactAllocHardSpec)

/-- ITS FALSE NEIGHBOUR: 'it returns false'. Refute it at one input. -/
def fnExactAllocHardWrong : ChangeSpec := { name := "fnExactAllocHard", fn := fun _ => fun
  | [d1, d2, d3] => { results := [.lit (.bool false)], args := [d1, d2, d3] }
  | _ => none }
def FnExactAllocHardWrongFalsely : Prop := fnExactAllocHardRow.holds Tryz.pinned (OpenSpec.ofChange fnExactAllocHardWrong)

/-- 'laws.FnExactPeakFrames': WHATEVER THE INPUT: true; the input reads as it did. -/
def fnExactPeakFramesSpec : ChangeSpec := { name := "fnExactPeakFrames", fn := fun _ => fun
  | [d1, d2] => { results := [.lit (.bool true)], args := [d1, d2] }
  | _ => none }
def fnExactPeakFramesRow : OpenClaim := { program := "ytiopgblagimpmaagreat", sum := "7f67971478dc76fbccc903b80c338c499d1f0adec04d363d55a62c42864d04dc", func := "loop.example/g00978/laws.FnExactPeakFrames", spec := "fnExactPeakFrames", inPlace := ["slices.overlaps[loop.example/g00978/impl.Span]", "slices.overlaps[loop.example/g00978/impl.Large]", "slices.overlaps[loop.example/g00978/impl.Obj]"], unfollowed := true, recurses := true, apart := false }
def FnExactPeakFramesSaid : Prop := fnExactPeakFramesRow.holds Tryz.pinned (OpenSpec.ofChange fnExactPeakFramesSpec)

/-- ITS FALSE NEIGHBOUR: 'it returns false'. Refute it at one input. -/
def fnExactPeakFramesWrong : ChangeSpec := { name := "fnExactPeakFrames", fn := fun _ => fun
  | [d1, d2] => { results := [.lit (.bool false)], args := [d1, d2] }
  | _ => none }
def FnExactPeakFramesWrongFalsely : Prop := fnExactPeakFramesRow.holds Tryz.pinned (OpenSpec.ofChange fnExactPeakFramesWrong)

/- THE SECOND FORM. 'bulk': how many values and letters a reading holds, each counted each time it is reached (what is shared counts as often as it is met; a slice's spare places count too). A statement '..UptoSaid' is the law's where the arguments, and the package variables that the reading takes, are together of bulk at most 1048576: NARROWER than '..Said'. Prove '..Said' where nothing that the law and all that it calls make is longer than what came in: it says more and counts as full. Else prove '..UptoSaid'. A law counts once. -/
mutual
def uptoBulk {H : Type} : DataW H → Nat
  | .lit (.string bytes) => bytes.length + 1
  | .lit _ => 1
  | .nil => 1
  | .ptr d => uptoBulk d + 1
  | .slice elems spare => uptoBulkAll elems + uptoBulkAll spare + 1
  | .agg parts => uptoBulkAll parts + 1
  | .iface _ d => uptoBulk d + 1
  | .map entries => uptoBulkEntries entries + 1
  | .held _ => 1
def uptoBulkAll {H : Type} : List (DataW H) → Nat
  | [] => 0
  | d :: r => uptoBulk d + uptoBulkAll r
def uptoBulkEntries {H : Type} : List (Lit × DataW H) → Nat
  | [] => 0
  | x :: r => uptoBulkEntry x + uptoBulkEntries r
def uptoBulkEntry {H : Type} : Lit × DataW H → Nat
  | (.string bytes, d) => bytes.length + uptoBulk d + 1
  | (_, d) => uptoBulk d + 1
 end
def uptoSmall : (H : Type) → List (DataW H) → Bool := fun _ ds => decide (uptoBulkAll ds ≤ 1048576)
def OpenSpec.upto (s : _root_.Go.ChangeSpec) : _root_.Go.OpenSpec := { _root_.Go.OpenSpec.ofChange s with cond := some uptoSmall }

/-- 'laws.FnLimits', WHERE WHAT IT READS IS OF BULK AT MOST 1048576: true; the input reads as it did. -/
def fnLimitsUptoRow : OpenClaim := { program := "ytiopgblagimpmaagreat", sum := "7f67971478dc76fbccc903b80c338c499d1f0adec04d363d55a62c42864d04dc", func := "loop.example/g00978/laws.FnLimits", spec := "fnLimits", inPlace := ["slices.overlaps[loop.example/g00978/impl.Span]", "slices.overlaps[loop.example/g00978/impl.Large]", "slices.overlaps[loop.example/g00978/impl.Obj]"], unfollowed := true, recurses := true, apart := false, narrowed := true }
def FnLimitsUptoSaid : Prop := fnLimitsUptoRow.holds Tryz.pinned (OpenSpec.upto fnLimitsSpec)

/-- 'laws.FnDestroyed', WHERE WHAT IT READS IS OF BULK AT MOST 1048576: true; the input reads as it did. -/
def fnDestroyedUptoRow : OpenClaim := { program := "ytiopgblagimpmaagreat", sum := "7f67971478dc76fbccc903b80c338c499d1f0adec04d363d55a62c42864d04dc", func := "loop.example/g00978/laws.FnDestroyed", spec := "fnDestroyed", inPlace := ["slices.overlaps[loop.example/g00978/impl.Span]", "slices.overlaps[loop.example/g00978/impl.Large]", "slices.overlaps[loop.example/g00978/impl.Obj]"], unfollowed := true, recurses := true, apart := false, narrowed := true }
def FnDestroyedUptoSaid : Prop := fnDestroyedUptoRow.holds Tryz.pinned (OpenSpec.upto fnDestroyedSpec)

/-- 'laws.FnHard', WHERE WHAT IT READS IS OF BULK AT MOST 1048576: true; the input reads as it did. -/
def fnHardUptoRow : OpenClaim := { program := "ytiopgblagimpmaagreat", sum := "7f67971478dc76fbccc903b80c338c499d1f0adec04d363d55a62c42864d04dc", func := "loop.example/g00978/laws.FnHard", spec := "fnHard", inPlace := ["slices.overlaps[loop.example/g00978/impl.Span]", "slices.overlaps[loop.example/g00978/impl.Large]", "slices.overlaps[loop.example/g00978/impl.Obj]"], unfollowed := true, recurses := true, apart := false, narrowed := true }
def FnHardUptoSaid : Prop := fnHardUptoRow.holds Tryz.pinned (OpenSpec.upto fnHardSpec)

/-- 'laws.FnAllocated', WHERE WHAT IT READS IS OF BULK AT MOST 1048576: true; the input reads as it did. -/
def fnAllocatedUptoRow : OpenClaim := { program := "ytiopgblagimpmaagreat", sum := "7f67971478dc76fbccc903b80c338c499d1f0adec04d363d55a62c42864d04dc", func := "loop.example/g00978/laws.FnAllocated", spec := "fnAllocated", inPlace := ["slices.overlaps[loop.example/g00978/impl.Span]", "slices.overlaps[loop.example/g00978/impl.Large]", "slices.overlaps[loop.example/g00978/impl.Obj]"], unfollowed := true, recurses := true, apart := false, narrowed := true }
def FnAllocatedUptoSaid : Prop := fnAllocatedUptoRow.holds Tryz.pinned (OpenSpec.upto fnAllocatedSpec)

/-- 'laws.FnRelieved', WHERE WHAT IT READS IS OF BULK AT MOST 1048576: true; the input reads as it did. -/
def fnRelievedUptoRow : OpenClaim := { program := "ytiopgblagimpmaagreat", sum := "7f67971478dc76fbccc903b80c338c499d1f0adec04d363d55a62c42864d04dc", func := "loop.example/g00978/laws.FnRelieved", spec := "fnRelieved", unfollowed := true, recurses := true, apart := false, narrowed := true }
def FnRelievedUptoSaid : Prop := fnRelievedUptoRow.holds Tryz.pinned (OpenSpec.upto fnRelievedSpec)

/-- 'laws.FnFreed', WHERE WHAT IT READS IS OF BULK AT MOST 1048576: true; the input reads as it did. -/
def fnFreedUptoRow : OpenClaim := { program := "ytiopgblagimpmaagreat", sum := "7f67971478dc76fbccc903b80c338c499d1f0adec04d363d55a62c42864d04dc", func := "loop.example/g00978/laws.FnFreed", spec := "fnFreed", unfollowed := true, recurses := true, apart := false, narrowed := true }
def FnFreedUptoSaid : Prop := fnFreedUptoRow.holds Tryz.pinned (OpenSpec.upto fnFreedSpec)

/-- 'laws.FnPeak', WHERE WHAT IT READS IS OF BULK AT MOST 1048576: true; the input reads as it did. -/
def fnPeakUptoRow : OpenClaim := { program := "ytiopgblagimpmaagreat", sum := "7f67971478dc76fbccc903b80c338c499d1f0adec04d363d55a62c42864d04dc", func := "loop.example/g00978/laws.FnPeak", spec := "fnPeak", inPlace := ["slices.overlaps[loop.example/g00978/impl.Span]", "slices.overlaps[loop.example/g00978/impl.Large]", "slices.overlaps[loop.example/g00978/impl.Obj]"], unfollowed := true, recurses := true, apart := false, narrowed := true }
def FnPeakUptoSaid : Prop := fnPeakUptoRow.holds Tryz.pinned (OpenSpec.upto fnPeakSpec)

/-- 'laws.FnInvisible', WHERE WHAT IT READS IS OF BULK AT MOST 1048576: true; the input reads as it did. -/
def fnInvisibleUptoRow : OpenClaim := { program := "ytiopgblagimpmaagreat", sum := "7f67971478dc76fbccc903b80c338c499d1f0adec04d363d55a62c42864d04dc", func := "loop.example/g00978/laws.FnInvisible", spec := "fnInvisible", inPlace := ["slices.overlaps[loop.example/g00978/impl.Span]", "slices.overlaps[loop.example/g00978/impl.Large]", "slices.overlaps[loop.example/g00978/impl.Obj]"], unfollowed := true, recurses := true, apart := false, narrowed := true }
def FnInvisibleUptoSaid : Prop := fnInvisibleUptoRow.holds Tryz.pinned (OpenSpec.upto fnInvisibleSpec)

/-- 'laws.FnRefused', WHERE WHAT IT READS IS OF BULK AT MOST 1048576: true; the input reads as it did. -/
def fnRefusedUptoRow : OpenClaim := { program := "ytiopgblagimpmaagreat", sum := "7f67971478dc76fbccc903b80c338c499d1f0adec04d363d55a62c42864d04dc", func := "loop.example/g00978/laws.FnRefused", spec := "fnRefused", inPlace := ["slices.overlaps[loop.example/g00978/impl.Span]", "slices.overlaps[loop.example/g00978/impl.Large]", "slices.overlaps[loop.example/g00978/impl.Obj]"], unfollowed := true, recurses := true, apart := false, narrowed := true }
def FnRefusedUptoSaid : Prop := fnRefusedUptoRow.holds Tryz.pinned (OpenSpec.upto fnRefusedSpec)

/-- 'laws.FnExactAllocHard', WHERE WHAT IT READS IS OF BULK AT MOST 1048576: true; the input reads as it did. -/
def fnExactAllocHardUptoRow : OpenClaim := { program := "ytiopgblagimpmaagreat", sum := "7f67971478dc76fbccc903b80c338c499d1f0adec04d363d55a62c42864d04dc", func := "loop.example/g00978/laws.FnExactAllocHard", spec := "fnExactAllocHard", inPlace := ["slices.overlaps[loop.example/g00978/impl.Span]", "slices.overlaps[loop.example/g00978/impl.Large]", "slices.overlaps[loop.example/g00978/impl.Obj]"], unfollowed := true, recurses := true, apart := false, narrowed := true }
def FnExactAllocHardUptoSaid : Prop := fnExactAllocHardUptoRow.holds Tryz.pinned (OpenSpec.upto fnExactAllocHardSpec)

/-- 'laws.FnExactPeakFrames', WHERE WHAT IT READS IS OF BULK AT MOST 1048576: true; the input reads as it did. -/
def fnExactPeakFramesUptoRow : OpenClaim := { program := "ytiopgblagimpmaagreat", sum := "7f67971478dc76fbccc903b80c338c499d1f0adec04d363d55a62c42864d04dc", func := "loop.example/g00978/laws.FnExactPeakFrames", spec := "fnExactPeakFrames", inPlace := ["slices.overlaps[loop.example/g00978/impl.Span]", "slices.overlaps[loop.example/g00978/impl.Large]", "slices.overlaps[loop.example/g00978/impl.Obj]"], unfollowed := true, recurses := true, apart := false, narrowed := true }
def FnExactPeakFramesUptoSaid : Prop := fnExactPeakFramesUptoRow.holds Tryz.pinned (OpenSpec.upto fnExactPeakFramesSpec)

end Rows
end Go.Proofs.YtiopgblagimpmaaGreat
