/-
  No cell of these rows narrows 'for every input' (looked for: loops, veiled, ifaces, maps, wideKeys, modest, calm, conditions, laid).
  DERIVED. THE GIVEN ROWS OF THIS SEAT. 4 by the template 'for every input the law returns true; each argument reads behind the call as it read before'; 0 by the template 'total and deterministic' (their statements: YtplcalfnngkffaaGreatTotals.lean).
  GIVEN WITH THE SEED: the statements are not yours to turn. If you find one false, say at which input.
  Laid BY PROGRAM, IN A SANDBOX (cutbox-rows.mjs): the forced cells as the released guide's own fill.sh prints them over the translation d7dfbe761fa9b037… (all of the seat's roots in one cut). By AI agents, Wed Nov 11 2026. No macro, syntax, notation, axiom, sorry.
-/
import Derived.Test.YtplcalfnngkffaaGreatChecked
import GoSem.Claim
import GoSem.ClaimJoined
import GoSem.ClaimMapViews
import Derived.JoinedTies
import Derived.KernelRfl
namespace Go.Proofs.YtplcalfnngkffaaGreat
/- THE CELL 'sum', in the pinned program and in every row, IS THE sha256 OF THE DUMP (.gsa) THAT YtplcalfnngkffaaGreatProg.lean LOADS. Nothing in Lean hashes anything: it is a label: what it is worth is what the hold of that sum in a sandbox is worth. -/
noncomputable def Tryz.pinned : Pinned := { name := "ytplcalfnngkffaagreat", sum := "d7dfbe761fa9b037f29694f3ca41a74c4efc80894cdbe8069c3c4263f59f583e", checked := Tryz.checked }
namespace Rows
def none {H : Type} : Left H := { results := [], args := [] }

/-- 'laws.FnNewHeap': WHATEVER THE INPUT: true; the input reads as it did. -/
def fnNewHeapSpec : ChangeSpec := { name := "fnNewHeap", fn := fun _ => fun
  | [d] => { results := [.lit (.bool true)], args := [d] }
  | _ => none }
def fnNewHeapRow : OpenClaim := { program := "ytplcalfnngkffaagreat", sum := "d7dfbe761fa9b037f29694f3ca41a74c4efc80894cdbe8069c3c4263f59f583e", func := "loop.example/g00978/laws.FnNewHeap", spec := "fnNewHeap", unfollowed := true, recurses := true, apart := false }
def FnNewHeapSaid : Prop := fnNewHeapRow.holds Tryz.pinned (OpenSpec.ofChange fnNewHeapSpec)

/-- ITS FALSE NEIGHBOUR: 'it returns false'. Refute it at one input. -/
def fnNewHeapWrong : ChangeSpec := { name := "fnNewHeap", fn := fun _ => fun
  | [d] => { results := [.lit (.bool false)], args := [d] }
  | _ => none }
def FnNewHeapWrongFalsely : Prop := fnNewHeapRow.holds Tryz.pinned (OpenSpec.ofChange fnNewHeapWrong)

/-- 'laws.FnLeaks': WHATEVER THE INPUT: true; the input reads as it did. -/
def fnLeaksSpec : ChangeSpec := { name := "fnLeaks", fn := fun _ => fun
  | [d] => { results := [.lit (.bool true)], args := [d] }
  | _ => none }
def fnLeaksRow : OpenClaim := { program := "ytplcalfnngkffaagreat", sum := "d7dfbe761fa9b037f29694f3ca41a74c4efc80894cdbe8069c3c4263f59f583e", func := "loop.example/g00978/laws.FnLeaks", spec := "fnLeaks", unfollowed := true, recurses := true, apart := false }
def FnLeaksSaid : Prop := fnLeaksRow.holds Tryz.pinned (OpenSpec.ofChange fnLeaksSpec)

/-- ITS FALSE NEIGHBOUR: 'it returns false'. Refute it at one input. -/
def fnLeaksWrong : ChangeSpec := { name := "fnLeaks", fn := fun _ => fun
  | [d] => { results := [.lit (.bool false)], args := [d] }
  | _ => none }
def FnLeaksWrongFalsely : Prop := fnLeaksRow.holds Tryz.pinned (OpenSpec.ofChange fnLeaksWrong)

/-- 'laws.FnPressure': WHATEVER THE INPUT: true; the input reads as it did. -/
def fnPressureSpec : ChangeSpec := { name := "fnPressure", fn := fun _ => fun
  | [d] => { results := [.lit (.bool true)], args := [d] }
  | _ => none }
def fnPressureRow : OpenClaim := { program := "ytplcalfnngkffaagreat", sum := "d7dfbe761fa9b037f29694f3ca41a74c4efc80894cdbe8069c3c4263f59f583e", func := "loop.example/g00978/laws.FnPressure", spec := "fnPressure", unfollowed := true, recurses := true, apart := false }
def FnPressureSaid : Prop := fnPressureRow.holds Tryz.pinned (OpenSpec.ofChange fnPressureSpec)

/-- ITS FALSE NEIGHBOUR: 'it returns false'. Refute it at one input. -/
def fnPressureWrong : ChangeSpec := { name := "fnPressure", fn := fun _ => fun
  | [d] => { results := [.lit (.bool false)], args := [d] }
  | _ => none }
def FnPressureWrongFalsely : Prop := fnPressureRow.holds Tryz.pinned (OpenSpec.ofChange fnPressureWrong)

/-- 'laws.FnExactRelieve': WHATEVER THE INPUT: true; the input reads as it did. -/
def fnExactRelieveSpec : ChangeSpec := { name := "fnExactRelieve", fn := fun _ => fun
  | [d1, d2] => { results := [.lit (.bool true)], args := [d1, d2] }
  | _ => none }
def fnExactRelieveRow : OpenClaim := { program := "ytplcalfnngkffaagreat", sum := "d7dfbe761fa9b037f29694f3ca41a74c4efc80894cdbe8069c3c4263f59f583e", func := "loop.example/g00978/laws.FnExactRelieve", spec := "fnExactRelieve", unfollowed := true, recurses := true, apart := false }
def FnExactRelieveSaid : Prop := fnExactRelieveRow.holds Tryz.pinned (OpenSpec.ofChange fnExactRelieveSpec)

/-- ITS FALSE NEIGHBOUR: 'it returns false'. Refute it at one input. -/
def fnExactRelieveWrong : ChangeSpec := { name := "fnExactRelieve", fn := fun _ => fun
  | [d1, d2] => { results := [.lit (.bool false)], args := [d1, d2] }
  | _ => none }
def FnExactRelieveWrongFalsely : Prop := fnExactRelieveRow.holds Tryz.pinned (OpenSpec.ofChange fnExactRelieveWrong)

/- THE SECOND FORM. 'bulk': how many values and letters a reading holds, each counted each time it is reached (what is shared counts as often as it is met; a slice's spare places count too). A statement '..UptoSaid' is the law's where the arguments, and the package variables that the reading takes, are together of bulk at most 1048576: NARROWER than '..Said'. Prove '..Said' where nothing that the law and all that it calls make is longer than what came in: it says more and counts as full. Else prove '..UptoSaid'. A law counts once. -/
mutual
def uptoBulk {H : Type} : DataW H → Nat
  | .lit (.string bytes) => bytes.length + 1
  | .lit _ => 1
  | .nil => 1
  | .ptr d => uptoBulk d + 1
  | .slice elems spare => uptoBulkAll elems + uptoBulkAll spare + 1
  | .agg parts => uptoBulkAll parts + 1
  | .iface _ d => uptoBulk d + 1
  | .map entries => uptoBulkEntries entries + 1
  | .held _ => 1
def uptoBulkAll {H : Type} : List (DataW H) → Nat
  | [] => 0
  | d :: r => uptoBulk d + uptoBulkAll r
def uptoBulkEntries {H : Type} : List (Lit × DataW H) → Nat
  | [] => 0
  | x :: r => uptoBulkEntry x + uptoBulkEntries r
def uptoBulkEntry {H : Type} : Lit × DataW H → Nat
  | (.string bytes, d) => bytes.length + uptoBulk d + 1
  | (_, d) => uptoBulk d + 1
 end
def uptoSmall : (H : Type) → List (DataW H) → Bool := fun _ ds => decide (uptoBulkAll ds ≤ 1048576)
def OpenSpec.upto (s : _root_.Go.ChangeSpec) : _root_.Go.OpenSpec := { _root_.Go.OpenSpec.ofChange s with cond := some uptoSmall }

/-- 'laws.FnNewHeap', WHERE WHAT IT READS IS OF BULK AT MOST 1048576: true; the input reads as it did. -/
def fnNewHeapUptoRow : OpenClaim := { program := "ytplcalfnngkffaagreat", sum := "d7dfbe761fa9b037f29694f3ca41a74c4efc80894cdbe8069c3c4263f59f583e", func := "loop.example/g00978/laws.FnNewHeap", spec := "fnNewHeap", unfollowed := true, recurses := true, apart := false, narrowed := true }
def FnNewHeapUptoSaid : Prop := fnNewHeapUptoRow.holds Tryz.pinned (OpenSpec.upto fnNewHeapSpec)

/-- 'laws.FnLeaks', WHERE WHAT IT READS IS OF BULK AT MOST 1048576: true; the input reads as it did. -/
def fnLeaksUptoRow : OpenClaim := { program := "ytplcalfnngkffaagreat", sum := "d7dfbe761fa9b037f29694f3ca41a74c4efc80894cdbe8069c3c4263f59f583e", func := "loop.example/g00978/laws.FnLeaks", spec := "fnLeaks", unfollowed := true, recurses := true, apart := false, narrowed := true }
def FnLeaksUptoSaid : Prop := fnLeaksUptoRow.holds Tryz.pinned (OpenSpec.upto fnLeaksSpec)

/-- 'laws.FnPressure', WHERE WHAT IT READS IS OF BULK AT MOST 1048576: true; the input reads as it did. -/
def fnPressureUptoRow : OpenClaim := { program := "ytplcalfnngkffaagreat", sum := "d7dfbe761fa9b037f29694f3ca41a74c4efc80894cdbe8069c3c4263f59f583e", func := "loop.example/g00978/laws.FnPressure", spec := "fnPressure", unfollowed := true, recurses := true, apart := false, narrowed := true }
def FnPressureUptoSaid : Prop := fnPressureUptoRow.holds Tryz.pinned (OpenSpec.upto fnPressureSpec)

/-- 'laws.FnExactRelieve', WHERE WHAT IT READS IS OF BULK AT MOST 1048576: true; the input reads as it did. -/
def fnExactRelieveUptoRow : OpenClaim := { program := "ytplcalfnngkffaagreat", sum := "d7dfbe761fa9b037f29694f3ca41a74c4efc80894cdbe8069c3c4263f59f583e", func := "loop.example/g00978/laws.FnExactRelieve", spec := "fnExactRelieve", unfollowed := true, recurses := true, apart := false, narrowed := true }
def FnExactRelieveUptoSaid : Prop := fnExactRelieveUptoRow.holds Tryz.pinned (OpenSpec.upto fnExactRelieveSpec)

end Rows
end Go.Proofs.YtplcalfnngkffaaGreat
