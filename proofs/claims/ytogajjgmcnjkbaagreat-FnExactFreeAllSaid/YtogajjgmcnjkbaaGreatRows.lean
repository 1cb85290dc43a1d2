/-
  No cell of these rows narrows 'for every input' (looked for: loops, veiled, ifaces, maps, wideKeys, modest, calm, conditions, laid).
  DERIVED. THE GIVEN ROWS OF THIS SEAT. 3 by the template 'for every input the law returns true; each argument reads behind the call as it read before'; 0 by the template 'total and deterministic' (their statements: YtogajjgmcnjkbaaGreatTotals.lean).
  GIVEN WITH THE SEED: the statements are not yours to turn. If you find one false, say at which input.
  Laid BY PROGRAM, IN A SANDBOX (cutbox-rows.mjs): the forced cells as the released guide's own fill.sh prints them over the translation b853dfb5ed6f7b63… (all of the seat's roots in one cut). By AI agents, Wed Nov 11 2026. No macro, syntax, notation, axiom, sorry.
-/
import Derived.Test.YtogajjgmcnjkbaaGreatChecked
import GoSem.Claim
import GoSem.ClaimJoined
import GoSem.ClaimMapViews
import Derived.JoinedTies
import Derived.KernelRfl
namespace Go.Proofs.YtogajjgmcnjkbaaGreat
/- THE CELL 'sum', in the pinned program and in every row, IS THE sha256 OF THE DUMP (.gsa) THAT YtogajjgmcnjkbaaGreatProg.lean LOADS. Nothing in Lean hashes anything: it is a label: what it is worth is what the hold of that sum in a sandbox is worth. -/
noncomputable def Tryz.pinned : Pinned := { name := "ytogajjgmcnjkbaagreat", sum := "b853dfb5ed6f7b634ff6d68cbcf1a53f67725f9adcf8da62bbad203d3de679f8", checked := Tryz.checked }
namespace Rows
def none {H : Type} : Left H := { results := [], args := [] }

/-- 'laws.FnExactHeapReset': WHATEVER THE INPUT: true; the input reads as it did. -/
def fnExactHeapResetSpec : ChangeSpec := { name := "fnExactHeapReset", fn := fun _ => fun
  | [d] => { results := [.lit (.bool true)], args := [d] }
  | _ => none }
def fnExactHeapResetRow : OpenClaim := { program := "ytogajjgmcnjkbaagreat", sum := "b853dfb5ed6f7b634ff6d68cbcf1a53f67725f9adcf8da62bbad203d3de679f8", func := "loop.example/g00978/laws.FnExactHeapReset", spec := "fnExactHeapReset", unfollowed := true, recurses := true, apart := false }
def FnExactHeapResetSaid : Prop := fnExactHeapResetRow.holds Tryz.pinned (OpenSpec.ofChange fnExactHeapResetSpec)

/-- ITS FALSE NEIGHBOUR: 'it returns false'. Refute it at one input. -/
def fnExactHeapResetWrong : ChangeSpec := { name := "fnExactHeapReset", fn := fun _ => fun
  | [d] => { results := [.lit (.bool false)], args := [d] }
  | _ => none }
def FnExactHeapResetWrongFalsely : Prop := fnExactHeapResetRow.holds Tryz.pinned (OpenSpec.ofChange fnExactHeapResetWrong)

/-- 'laws.FnExactFreeAll': WHATEVER THE INPUT: true; the input reads as it did. -/
def fnExactFreeAllSpec : ChangeSpec := { name := "fnExactFreeAll", fn := fun _ => fun
  | [d1, d2] => { results := [.lit (.bool true)], args := [d1, d2] }
  | _ => none }
def fnExactFreeAllRow : OpenClaim := { program := "ytogajjgmcnjkbaagreat", sum := "b853dfb5ed6f7b634ff6d68cbcf1a53f67725f9adcf8da62bbad203d3de679f8", func := "loop.example/g00978/laws.FnExactFreeAll", spec := "fnExactFreeAll", unfollowed := true, recurses := true, apart := false }
def FnExactFreeAllSaid : Prop := fnExactFreeAllRow.holds Tryz.pinned (OpenSpec.ofChange fnExactFreeAllSpec)

/-- ITS FALSE NEIGHBOUR: 'it returns false'. Refute it at one input. -/
def fnExactFreeAllWrong : ChangeSpec := { name := "fnExactFreeAll", fn := fun _ => fun
  | [d1, d2] => { results := [.lit (.bool false)], args := [d1, d2] }
  | _ => none }
def FnExactFreeAllWrongFalsely : Prop := fnExactFreeAllRow.holds Tryz.pinned (OpenSpec.ofChange fnExactFreeAllWrong)

/-- 'laws.FnExactRelieve': WHATEVER THE INPUT: true; the input reads as it did. -/
def fnExactRelieveSpec : ChangeSpec := { name := "fnExactRelieve", fn := fun _ => fun
  | [d1, d2] => { results := [.lit (.bool true)], args := [d1, d2] }
  | _ => none }
def fnExactRelieveRow : OpenClaim := { program := "ytogajjgmcnjkbaagreat", sum := "b853dfb5ed6f7b634ff6d68cbcf1a53f67725f9adcf8da62bbad203d3de679f8", func := "loop.example/g00978/laws.FnExactRelieve", spec := "fnExactRelieve", unfollowed := true, recurses := true, apart := false }
def FnExactRelieveSaid : Prop := fnExactRelieveRow.holds Tryz.pinned (OpenSpec.ofChange fnExactRelieveSpec)

/-- ITS FALSE NEIGHBOUR: 'it returns false'. Refute it at one input. -/
def fnExactRelieveWrong : ChangeSpec := { name := "fnExactRelieve", fn := fun _ => fun
  | [d1, d2] => { results := [.lit (.bool false)], args := [d1, d2] }
  | _ => none }
def FnExactRelieveWrongFalsely : Prop := fnExactRelieveRow.holds Tryz.pinned (OpenSpec.ofChange fnExactRelieveWrong)

/- THE SECOND FORM. 'bulk': how many values and letters a reading holds, each counted each time it is reached (what is shared counts as often as it is met; a slice's spare places count too). A statement '..UptoSaid' is the law's where the arguments, and the package variables that the reading takes, are together of bulk at most 1048576: NARROWER than '..Said'. Prove '..Said' where nothing that the law and all that it calls make is longer than what came in: it says more and counts as full. Else prove '..UptoSaid'. A law counts once. -/
mutual
def uptoBulk {H : Type} : DataW H → Nat
  | .lit (.string bytes) => bytes.length + 1
  | .lit _ => 1
  | .nil => 1
  | .ptr d => uptoBulk d + 1
  | .slice elems spare => uptoBulkAll elems + uptoBulkAll spare + 1
  | .agg parts => uptoBulkAll parts + 1
  | .iface _ d => uptoBulk d + 1
  | .map entries => uptoBulkEntries entries + 1
  | .held _ => 1
def uptoBulkAll {H : Type} : List (DataW H) → Nat
  | [] => 0
  | d :: r => uptoBulk d + uptoBulkAll r
def uptoBulkEntries {H : Type} : List (Lit × DataW H) → Nat
  | [] => 0
  | x :: r => uptoBulkEntry x + uptoBulkEntries r
def uptoBulkEntry {H : Type} : Lit × DataW H → Nat
  | (.string bytes, d) => bytes.length + uptoBulk d + 1
  | (_, d) => uptoBulk d + 1
 end
def uptoSmall : (H : Type) → List (DataW H) → Bool := fun _ ds => decide (uptoBulkAll ds ≤ 1048576)
def OpenSpec.upto (s : _root_.Go.ChangeSpec) : _root_.Go.OpenSpec := { _root_.Go.OpenSpec.ofChange s with cond := some uptoSmall }

/-- 'laws.FnExactHeapReset', WHERE WHAT IT READS IS OF BULK AT MOST 1048576: true; the input reads as it did. -/
def fnExactHeapResetUptoRow : OpenClaim := { program := "ytogajjgmcnjkbaagreat", sum := "b853dfb5ed6f7b634ff6d68cbcf1a53f67725f9adcf8da62bbad203d3de679f8", func := "loop.example/g00978/laws.FnExactHeapReset", spec := "fnExactHeapReset", unfollowed := true, recurses := true, apart := false, narrowed := true }
def FnExactHeapResetUptoSaid : Prop := fnExactHeapResetUptoRow.holds Tryz.pinned (OpenSpec.upto fnExactHeapResetSpec)

/-- 'laws.FnExactFreeAll', WHERE WHAT IT READS IS OF BULK AT MOST 1048576: true; the input reads as it did. -/
def fnExactFreeAllUptoRow : OpenClaim := { program := "ytogajjgmcnjkbaagreat", sum := "b853dfb5ed6f7b634ff6d68cbcf1a53f67725f9adcf8da62bbad203d3de679f8", func := "loop.example/g00978/laws.FnExactFreeAll", spec := "fnExactFreeAll", unfollowed := true, recurses := true, apart := false, narrowed := true }
def FnExactFreeAllUptoSaid : Prop := fnExactFreeAllUptoRow.holds Tryz.pinned (OpenSpec.upto fnExactFreeAllSpec)

/-- 'laws.FnExactRelieve', WHERE WHAT IT READS IS OF BULK AT MOST 1048576: true; the input reads as it did. -/
def fnExactRelieveUptoRow : OpenClaim := { program := "ytogajjgmcnjkbaagreat", sum := "b853dfb5ed6f7b634ff6d68cbcf1a53f67725f9adcf8da62bbad203d3de679f8", func := "loop.example/g00978/laws.FnExactRelieve", spec := "fnExactRelieve", unfollowed := true, recurses := true, apart := false, narrowed := true }
def FnExactRelieveUptoSaid : Prop := fnExactRelieveUptoRow.holds Tryz.pinned (OpenSpec.upto fnExactRelieveSpec)

end Rows
end Go.Proofs.YtogajjgmcnjkbaaGreat
