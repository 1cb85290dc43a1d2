/-
  No cell of these rows narrows 'for every input' (looked for: loops, veiled, ifaces, maps, wideKeys, modest, calm, conditions, laid).
  DERIVED. THE GIVEN ROWS OF THIS SEAT. 12 by the template 'for every input the law returns true; each argument reads behind the call as it read before'; 0 by the template 'total and deterministic' (their statements: YtembpgjjnioagaaGreatTotals.lean).
  GIVEN WITH THE SEED: the statements are not yours to turn. If you find one false, say at which input.
  Laid BY PROGRAM, IN A SANDBOX (cutbox-rows.mjs): the forced cells as the released guide's own fill.sh prints them over the translation 585309111c15639b… (all of the seat's roots in one cut). By AI agents, Wed Nov 11 2026. No macro, syntax, notation, axiom, sorry.
-/
import Derived.Test.YtembpgjjnioagaaGreatChecked
import GoSem.Claim
import GoSem.ClaimJoined
import GoSem.ClaimMapViews
import Derived.JoinedTies
import Derived.KernelRfl
namespace Go.Proofs.YtembpgjjnioagaaGreat
/- THE CELL 'sum', in the pinned program and in every row, IS THE sha256 OF THE DUMP (.gsa) THAT YtembpgjjnioagaaGreatProg.lean LOADS. Nothing in Lean hashes anything: it is a label: what it is worth is what the hold of that sum in a sandbox is worth. -/
noncomputable def Tryz.pinned : Pinned := { name := "ytembpgjjnioagaagreat", sum := "585309111c15639b98fd4e737a96560292b55b4bf4a6fde65d4302ce8d20d211", checked := Tryz.checked }
namespace Rows
def none {H : Type} : Left H := { results := [], args := [] }

/-- 'laws.FnPressure': WHATEVER THE INPUT: true; the input reads as it did. -/
def fnPressureSpec : ChangeSpec := { name := "fnPressure", fn := fun _ => fun
  | [d] => { results := [.lit (.bool true)], args := [d] }
  | _ => none }
def fnPressureRow : OpenClaim := { program := "ytembpgjjnioagaagreat", sum := "585309111c15639b98fd4e737a96560292b55b4bf4a6fde65d4302ce8d20d211", func := "loop.example/g00978/laws.FnPressure", spec := "fnPressure", unfollowed := true, recurses := true, apart := false }
def FnPressureSaid : Prop := fnPressureRow.holds Tryz.pinned (OpenSpec.ofChange fnPressureSpec)

/-- ITS FALSE NEIGHBOUR: 'it returns false'. Refute it at one input. -/
def fnPressureWrong : ChangeSpec := { name := "fnPressure", fn := fun _ => fun
  | [d] => { results := [.lit (.bool false)], args := [d] }
  | _ => none }
def FnPressureWrongFalsely : Prop := fnPressureRow.holds Tryz.pinned (OpenSpec.ofChange fnPressureWrong)

/-- 'laws.FnLeaks': WHATEVER THE INPUT: true; the input reads as it did. -/
def fnLeaksSpec : ChangeSpec := { name := "fnLeaks", fn := fun _ => fun
  | [d] => { results := [.lit (.bool true)], args := [d] }
  | _ => none }
def fnLeaksRow : OpenClaim := { program := "ytembpgjjnioagaagreat", sum := "585309111c15639b98fd4e737a96560292b55b4bf4a6fde65d4302ce8d20d211", func := "loop.example/g00978/laws.FnLeaks", spec := "fnLeaks", unfollowed := true, recurses := true, apart := false }
def FnLeaksSaid : Prop := fnLeaksRow.holds Tryz.pinned (OpenSpec.ofChange fnLeaksSpec)

/-- ITS FALSE NEIGHBOUR: 'it returns false'. Refute it at one input. -/
def fnLeaksWrong : ChangeSpec := { name := "fnLeaks", fn := fun _ => fun
  | [d] => { results := [.lit (.bool false)], args := [d] }
  | _ => none }
def FnLeaksWrongFalsely : Prop := fnLeaksRow.holds Tryz.pinned (OpenSpec.ofChange fnLeaksWrong)

/-- 'laws.FnNewHeap': WHATEVER THE INPUT: true; the input reads as it did. -/
def fnNewHeapSpec : ChangeSpec := { name := "fnNewHeap", fn := fun _ => fun
  | [d] => { results := [.lit (.bool true)], args := [d] }
  | _ => none }
def fnNewHeapRow : OpenClaim := { program := "ytembpgjjnioagaagreat", sum := "585309111c15639b98fd4e737a96560292b55b4bf4a6fde65d4302ce8d20d211", func := "loop.example/g00978/laws.FnNewHeap", spec := "fnNewHeap", unfollowed := true, recurses := true, apart := false }
def FnNewHeapSaid : Prop := fnNewHeapRow.holds Tryz.pinned (OpenSpec.ofChange fnNewHeapSpec)

/-- ITS FALSE NEIGHBOUR: 'it returns false'. Refute it at one input. -/
def fnNewHeapWrong : ChangeSpec := { name := "fnNewHeap", fn := fun _ => fun
  | [d] => { results := [.lit (.bool false)], args := [d] }
  | _ => none }
def FnNewHeapWrongFalsely : Prop := fnNewHeapRow.holds Tryz.pinned (OpenSpec.ofChange fnNewHeapWrong)

/-- 'laws.FnAudited': WHATEVER THE INPUT: true; the input reads as it did. -/
def fnAuditedSpec : ChangeSpec := { name := "fnAudited", fn := fun _ => fun
  | [d] => { results := [.lit (.bool true)], args := [d] }
  | _ => none }
def fnAuditedRow : OpenClaim := { program := "ytembpgjjnioagaagreat", sum := "585309111c15639b98fd4e737a96560292b55b4bf4a6fde65d4302ce8d20d211", func := "loop.example/g00978/laws.FnAudited", spec := "fnAudited", unfollowed := true, recurses := true, apart := false }
def FnAuditedSaid : Prop := fnAuditedRow.holds Tryz.pinned (OpenSpec.ofChange fnAuditedSpec)

/-- ITS FALSE NEIGHBOUR: 'it returns false'. Refute it at one input. -/
def fnAuditedWrong : ChangeSpec := { name := "fnAudited", fn := fun _ => fun
  | [d] => { results := [.lit (.bool false)], args := [d] }
  | _ => none }
def FnAuditedWrongFalsely : Prop := fnAuditedRow.holds Tryz.pinned (OpenSpec.ofChange fnAuditedWrong)

/-- 'laws.FnGiven': WHATEVER THE INPUT: true; the input reads as it did. -/
def fnGivenSpec : ChangeSpec := { name := "fnGiven", fn := fun _ => fun
  | [d] => { results := [.lit (.bool true)], args := [d] }
  | _ => none }
def fnGivenRow : OpenClaim := { program := "ytembpgjjnioagaagreat", sum := "585309111c15639b98fd4e737a96560292b55b4bf4a6fde65d4302ce8d20d211", func := "loop.example/g00978/laws.FnGiven", spec := "fnGiven", unfollowed := true, recurses := true, apart := false }
def FnGivenSaid : Prop := fnGivenRow.holds Tryz.pinned (OpenSpec.ofChange fnGivenSpec)

/-- ITS FALSE NEIGHBOUR: 'it returns false'. Refute it at one input. -/
def fnGivenWrong : ChangeSpec := { name := "fnGiven", fn := fun _ => fun
  | [d] => { results := [.lit (.bool false)], args := [d] }
  | _ => none }
def FnGivenWrongFalsely : Prop := fnGivenRow.holds Tryz.pinned (OpenSpec.ofChange fnGivenWrong)

/-- 'laws.FnCandidates': WHATEVER THE INPUT: true; the input reads as it did. -/
def fnCandidatesSpec : ChangeSpec := { name := "fnCandidates", fn := fun _ => fun
  | [d] => { results := [.lit (.bool true)], args := [d] }
  | _ => none }
def fnCandidatesRow : OpenClaim := { program := "ytembpgjjnioagaagreat", sum := "585309111c15639b98fd4e737a96560292b55b4bf4a6fde65d4302ce8d20d211", func := "loop.example/g00978/laws.FnCandidates", spec := "fnCandidates", unfollowed := true, recurses := true, apart := false }
def FnCandidatesSaid : Prop := fnCandidatesRow.holds Tryz.pinned (OpenSpec.ofChange fnCandidatesSpec)

/-- ITS FALSE NEIGHBOUR: 'it returns false'. Refute it at one input. -/
def fnCandidatesWrong : ChangeSpec := { name := "fnCandidates", fn := fun _ => fun
  | [d] => { results := [.lit (.bool false)], args := [d] }
  | _ => none }
def FnCandidatesWrongFalsely : Prop := fnCandidatesRow.holds Tryz.pinned (OpenSpec.ofChange fnCandidatesWrong)

/-- 'laws.FnFreeAll': WHATEVER THE INPUT: true; the input reads as it did. -/
def fnFreeAllSpec : ChangeSpec := { name := "fnFreeAll", fn := fun _ => fun
  | [d] => { results := [.lit (.bool true)], args := [d] }
  | _ => none }
def fnFreeAllRow : OpenClaim := { program := "ytembpgjjnioagaagreat", sum := "585309111c15639b98fd4e737a96560292b55b4bf4a6fde65d4302ce8d20d211", func := "loop.example/g00978/laws.FnFreeAll", spec := "fnFreeAll", unfollowed := true, recurses := true, apart := false }
def FnFreeAllSaid : Prop := fnFreeAllRow.holds Tryz.pinned (OpenSpec.ofChange fnFreeAllSpec)

/-- ITS FALSE NEIGHBOUR: 'it returns false'. Refute it at one input. -/
def fnFreeAllWrong : ChangeSpec := { name := "fnFreeAll", fn := fun _ => fun
  | [d] => { results := [.lit (.bool false)], args := [d] }
  | _ => none }
def FnFreeAllWrongFalsely : Prop := fnFreeAllRow.holds Tryz.pinned (OpenSpec.ofChange fnFreeAllWrong)

/-- 'laws.FnAccess': WHATEVER THE INPUT: true; the input reads as it did. -/
def fnAccessSpec : ChangeSpec := { name := "fnAccess", fn := fun _ => fun
  | [d] => { results := [.lit (.bool true)], args := [d] }
  | _ => none }
def fnAccessRow : OpenClaim := { program := "ytembpgjjnioagaagreat", sum := "585309111c15639b98fd4e737a96560292b55b4bf4a6fde65d4302ce8d20d211", func := "loop.example/g00978/laws.FnAccess", spec := "fnAccess", unfollowed := true, recurses := true, apart := false }
def FnAccessSaid : Prop := fnAccessRow.holds Tryz.pinned (OpenSpec.ofChange fnAccessSpec)

/-- ITS FALSE NEIGHBOUR: 'it returns false'. Refute it at one input. -/
def fnAccessWrong : ChangeSpec := { name := "fnAccess", fn := fun _ => fun
  | [d] => { results := [.lit (.bool false)], args := [d] }
  | _ => none }
def FnAccessWrongFalsely : Prop := fnAccessRow.holds Tryz.pinned (OpenSpec.ofChange fnAccessWrong)

/-- 'laws.FnLimits': WHATEVER THE INPUT: true; the input reads as it did. -/
def fnLimitsSpec : ChangeSpec := { name := "fnLimits", fn := fun _ => fun
  | [d] => { results := [.lit (.bool true)], args := [d] }
  | _ => none }
def fnLimitsRow : OpenClaim := { program := "ytembpgjjnioagaagreat", sum := "585309111c15639b98fd4e737a96560292b55b4bf4a6fde65d4302ce8d20d211", func := "loop.example/g00978/laws.FnLimits", spec := "fnLimits", inPlace := ["slices.overlaps[loop.example/g00978/impl.Span]", "slices.overlaps[loop.example/g00978/impl.Large]", "slices.overlaps[loop.example/g00978/impl.Obj]"], unfollowed := true, recurses := true, apart := false }
def FnLimitsSaid : Prop := fnLimitsRow.holds Tryz.pinned (OpenSpec.ofChange fnLimitsSpec)

/-- ITS FALSE NEIGHBOUR: 'it returns false'. Refute it at one input. -/
def fnLimitsWrong : ChangeSpec := { name := "fnLimits", fn := fun _ => fun
  | [d] => { results := [.lit (.bool false)], args := [d] }
  | _ => none }
def FnLimitsWrongFalsely : Prop := fnLimitsRow.holds Tryz.pinned (OpenSpec.ofChange fnLimitsWrong)

/-- 'laws.FnWrongFrees': WHATEVER THE INPUT: true; the input reads as it did. -/
def fnWrongFreesSpec : ChangeSpec := { name := "fnWrongFrees", fn := fun _ => fun
  | [d] => { results := [.lit (.bool true)], args := [d] }
  | _ => none }
def fnWrongFreesRow : OpenClaim := { program := "ytembpgjjnioagaagreat", sum := "585309111c15639b98fd4e737a96560292b55b4bf4a6fde65d4302ce8d20d211", func := "loop.example/g00978/laws.FnWrongFrees", spec := "fnWrongFrees", unfollowed := true, recurses := true, apart := false }
def FnWrongFreesSaid : Prop := fnWrongFreesRow.holds Tryz.pinned (OpenSpec.ofChange fnWrongFreesSpec)

/-- ITS FALSE NEIGHBOUR: 'it returns false'. Refute it at one input. -/
def fnWrongFreesWrong : ChangeSpec := { name := "fnWrongFrees", fn := fun _ => fun
  | [d] => { results := [.lit (.bool false)], args := [d] }
  | _ => none }
def FnWrongFreesWrongFalsely : Prop := fnWrongFreesRow.holds Tryz.pinned (OpenSpec.ofChange fnWrongFreesWrong)

/-- 'laws.FnDestroyed': WHATEVER THE INPUT: true; the input reads as it did. -/
def fnDestroyedSpec : ChangeSpec := { name := "fnDestroyed", fn := fun _ => fun
  | [d] => { results := [.lit (.bool true)], args := [d] }
  | _ => none }
def fnDestroyedRow : OpenClaim := { program := "ytembpgjjnioagaagreat", sum := "585309111c15639b98fd4e737a96560292b55b4bf4a6fde65d4302ce8d20d211", func := "loop.example/g00978/laws.FnDestroyed", spec := "fnDestroyed", inPlace := ["slices.overlaps[loop.example/g00978/impl.Span]", "slices.overlaps[loop.example/g00978/impl.Large]", "slices.overlaps[loop.example/g00978/impl.Obj]"], unfollowed := true, recurses := true, apart := false }
def FnDestroyedSaid : Prop := fnDestroyedRow.holds Tryz.pinned (OpenSpec.ofChange fnDestroyedSpec)

/-- ITS FALSE NEIGHBOUR: 'it returns false'. Refute it at one input. -/
def fnDestroyedWrong : ChangeSpec := { name := "fnDestroyed", fn := fun _ => fun
  | [d] => { results := [.lit (.bool false)], args := [d] }
  | _ => none }
def FnDestroyedWrongFalsely : Prop := fnDestroyedRow.holds Tryz.pinned (OpenSpec.ofChange fnDestroyedWrong)

/-- 'laws.FnFlushed': WHATEVER THE INPUT: true; the input reads as it did. -/
def fnFlushedSpec : ChangeSpec := { name := "fnFlushed", fn := fun _ => fun
  | [d] => { results := [.lit (.bool true)], args := [d] }
  | _ => none }
def fnFlushedRow : OpenClaim := { program := "ytembpgjjnioagaagreat", sum := "585309111c15639b98fd4e737a96560292b55b4bf4a6fde65d4302ce8d20d211", func := "loop.example/g00978/laws.FnFlushed", spec := "fnFlushed", unfollowed := true, recurses := true, apart := false }
def FnFlushedSaid : Prop := fnFlushedRow.holds Tryz.pinned (OpenSpec.ofChange fnFlushedSpec)

/-- ITS FALSE NEIGHBOUR: 'it returns false'. Refute it at one input. -/
def fnFlushedWrong : ChangeSpec := { name := "fnFlushed", fn := fun _ => fun
  | [d] => { results := [.lit (.bool false)], args := [d] }
  | _ => none }
def FnFlushedWrongFalsely : Prop := fnFlushedRow.holds Tryz.pinned (OpenSpec.ofChange fnFlushedWrong)

/- THE SECOND FORM. 'bulk': how many values and letters a reading holds, each counted each time it is reached (what is shared counts as often as it is met; a slice's spare places count too). A statement '..UptoSaid' is the law's where the arguments, and the package variables that the reading takes, are together of bulk at most 1048576: NARROWER than '..Said'. Prove '..Said' where nothing that the law and all that it calls make is longer than what came in: it says more and counts as full. Else prove '..UptoSaid'. A law counts once. -/
mutual
def uptoBulk {H : Type} : DataW H → Nat
  | .lit (.string bytes) => bytes.length + 1
  | .lit _ => 1
  | .nil => 1
  | .ptr d => uptoBulk d + 1
  | .slice elems spare => uptoBulkAll elems + uptoBulkAll spare + 1
  | .agg parts => uptoBulkAll parts + 1
  | .iface _ d => uptoBulk d + 1
  | .map entries => uptoBulkEntries entries + 1
  | .held _ => 1
def uptoBulkAll {H : Type} : List (DataW H) → Nat
  | [] => 0
  | d :: r => uptoBulk d + uptoBulkAll r
def uptoBulkEntries {H : Type} : List (Lit × DataW H) → Nat
  | [] => 0
  | x :: r => uptoBulkEntry x + uptoBulkEntries r
def uptoBulkEntry {H : Type} : Lit × DataW H → Nat
  | (.string bytes, d) => bytes.length + uptoBulk d + 1
  | (_, d) => uptoBulk d + 1
 end
def uptoSmall : (H : Type) → List (DataW H) → Bool := fun _ ds => decide (uptoBulkAll ds ≤ 1048576)
def OpenSpec.upto (s : _root_.Go.ChangeSpec) : _root_.Go.OpenSpec := { _root_.Go.OpenSpec.ofChange s with cond := some uptoSmall }

/-- 'laws.FnPressure', WHERE WHAT IT READS IS OF BULK AT MOST 1048576: true; the input reads as it did. -/
def fnPressureUptoRow : OpenClaim := { program := "ytembpgjjnioagaagreat", sum := "585309111c15639b98fd4e737a96560292b55b4bf4a6fde65d4302ce8d20d211", func := "loop.example/g00978/laws.FnPressure", spec := "fnPressure", unfollowed := true, recurses := true, apart := false, narrowed := true }
def FnPressureUptoSaid : Prop := fnPressureUptoRow.holds Tryz.pinned (OpenSpec.upto fnPressureSpec)

/-- 'laws.FnLeaks', WHERE WHAT IT READS IS OF BULK AT MOST 1048576: true; the input reads as it did. -/
def fnLeaksUptoRow : OpenClaim := { program := "ytembpgjjnioagaagreat", sum := "585309111c15639b98fd4e737a96560292b55b4bf4a6fde65d4302ce8d20d211", func := "loop.example/g00978/laws.FnLeaks", spec := "fnLeaks", unfollowed := true, recurses := true, apart := false, narrowed := true }
def FnLeaksUptoSaid : Prop := fnLeaksUptoRow.holds Tryz.pinned (OpenSpec.upto fnLeaksSpec)

/-- 'laws.FnNewHeap', WHERE WHAT IT READS IS OF BULK AT MOST 1048576: true; the input reads as it did. -/
def fnNewHeapUptoRow : OpenClaim := { program := "ytembpgjjnioagaagreat", sum := "585309111c15639b98fd4e737a96560292b55b4bf4a6fde65d4302ce8d20d211", func := "loop.example/g00978/laws.FnNewHeap", spec := "fnNewHeap", unfollowed := true, recurses := true, apart := false, narrowed := true }
def FnNewHeapUptoSaid : Prop := fnNewHeapUptoRow.holds Tryz.pinned (OpenSpec.upto fnNewHeapSpec)

/-- 'laws.FnAudited', WHERE WHAT IT READS IS OF BULK AT MOST 1048576: true; the input reads as it did. -/
def fnAuditedUptoRow : OpenClaim := { program := "ytembpgjjnioagaagreat", sum := "585309111c15639b98fd4e737a96560292b55b4bf4a6fde65d4302ce8d20d211", func := "loop.example/g00978/laws.FnAudited", spec := "fnAudited", unfollowed := true, recurses := true, apart := false, narrowed := true }
def FnAuditedUptoSaid : Prop := fnAuditedUptoRow.holds Tryz.pinned (OpenSpec.upto fnAuditedSpec)

/-- 'laws.FnGiven', WHERE WHAT IT READS IS OF BULK AT MOST 1048576: true; the input reads as it did. -/
def fnGivenUptoRow : OpenClaim := { program := "ytembpgjjnioagaagreat", sum := "585309111c15639b98fd4e737a96560292b55b4bf4a6fde65d4302ce8d20d211", func := "loop.example/g00978/laws.FnGiven", spec := "fnGiven", unfollowed := true, recurses := true, apart := false, narrowed := true }
def FnGivenUptoSaid : Prop := fnGivenUptoRow.holds Tryz.pinned (OpenSpec.upto fnGivenSpec)

/-- 'laws.FnCandidates', WHERE WHAT IT READS IS OF BULK AT MOST 1048576: true; the input reads as it did. -/
def fnCandidatesUptoRow : OpenClaim := { program := "ytembpgjjnioagaagreat", sum := "585309111c15639b98fd4e737a96560292b55b4bf4a6fde65d4302ce8d20d211", func := "loop.example/g00978/laws.FnCandidates", spec := "fnCandidates", unfollowed := true, recurses := true, apart := false, narrowed := true }
def FnCandidatesUptoSaid : Prop := fnCandidatesUptoRow.holds Tryz.pinned (OpenSpec.upto fnCandidatesSpec)

/-- 'laws.FnFreeAll', WHERE WHAT IT READS IS OF BULK AT MOST 1048576: true; the input reads as it did. -/
def fnFreeAllUptoRow : OpenClaim := { program := "ytembpgjjnioagaagreat", sum := "585309111c15639b98fd4e737a96560292b55b4bf4a6fde65d4302ce8d20d211", func := "loop.example/g00978/laws.FnFreeAll", spec := "fnFreeAll", unfollowed := true, recurses := true, apart := false, narrowed := true }
def FnFreeAllUptoSaid : Prop := fnFreeAllUptoRow.holds Tryz.pinned (OpenSpec.upto fnFreeAllSpec)

/-- 'laws.FnAccess', WHERE WHAT IT READS IS OF BULK AT MOST 1048576: true; the input reads as it did. -/
def fnAccessUptoRow : OpenClaim := { program := "ytembpgjjnioagaagreat", sum := "585309111c15639b98fd4e737a96560292b55b4bf4a6fde65d4302ce8d20d211", func := "loop.example/g00978/laws.FnAccess", spec := "fnAccess", unfollowed := true, recurses := true, apart := false, narrowed := true }
def FnAccessUptoSaid : Prop := fnAccessUptoRow.holds Tryz.pinned (OpenSpec.upto fnAccessSpec)

/-- 'laws.FnLimits', WHERE WHAT IT READS IS OF BULK AT MOST 1048576: true; the input reads as it did. -/
def fnLimitsUptoRow : OpenClaim := { program := "ytembpgjjnioagaagreat", sum := "585309111c15639b98fd4e737a96560292b55b4bf4a6fde65d4302ce8d20d211", func := "loop.example/g00978/laws.FnLimits", spec := "fnLimits", inPlace := ["slices.overlaps[loop.example/g00978/impl.Span]", "slices.overlaps[loop.example/g00978/impl.Large]", "slices.overlaps[loop.example/g00978/impl.Obj]"], unfollowed := true, recurses := true, apart := false, narrowed := true }
def FnLimitsUptoSaid : Prop := fnLimitsUptoRow.holds Tryz.pinned (OpenSpec.upto fnLimitsSpec)

/-- 'laws.FnWrongFrees', WHERE WHAT IT READS IS OF BULK AT MOST 1048576: true; the input reads as it did. -/
def fnWrongFreesUptoRow : OpenClaim := { program := "ytembpgjjnioagaagreat", sum := "585309111c15639b98fd4e737a96560292b55b4bf4a6fde65d4302ce8d20d211", func := "loop.example/g00978/laws.FnWrongFrees", spec := "fnWrongFrees", unfollowed := true, recurses := true, apart := false, narrowed := true }
def FnWrongFreesUptoSaid : Prop := fnWrongFreesUptoRow.holds Tryz.pinned (OpenSpec.upto fnWrongFreesSpec)

/-- 'laws.FnDestroyed', WHERE WHAT IT READS IS OF BULK AT MOST 1048576: true; the input reads as it did. -/
def fnDestroyedUptoRow : OpenClaim := { program := "ytembpgjjnioagaagreat", sum := "585309111c15639b98fd4e737a96560292b55b4bf4a6fde65d4302ce8d20d211", func := "loop.example/g00978/laws.FnDestroyed", spec := "fnDestroyed", inPlace := ["slices.overlaps[loop.example/g00978/impl.Span]", "slices.overlaps[loop.example/g00978/impl.Large]", "slices.overlaps[loop.example/g00978/impl.Obj]"], unfollowed := true, recurses := true, apart := false, narrowed := true }
def FnDestroyedUptoSaid : Prop := fnDestroyedUptoRow.holds Tryz.pinned (OpenSpec.upto fnDestroyedSpec)

/-- 'laws.FnFlushed', WHERE WHAT IT READS IS OF BULK AT MOST 1048576: true; the input reads as it did. -/
def fnFlushedUptoRow : OpenClaim := { program := "ytembpgjjnioagaagreat", sum := "585309111c15639b98fd4e737a96560292b55b4bf4a6fde65d4302ce8d20d211", func := "loop.example/g00978/laws.FnFlushed", spec := "fnFlushed", unfollowed := true, recurses := true, apart := false, narrowed := true }
def FnFlushedUptoSaid : Prop := fnFlushedUptoRow.holds Tryz.pinned (OpenSpec.upto fnFlushedSpec)

end Rows
end Go.Proofs.YtembpgjjnioagaaGreat
