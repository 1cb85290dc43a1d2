/-
  NARROWER THAN 'FOR EVERY INPUT', by the rows' own cells (each row's printed sentence says how): FnCodeNames: laid · FnExactFormatCode: laid · FnExactFormatSpan: laid · FnExactFormatAccount: laid · FnExactFormatAct: laid · FnExactJournalAdd: laid · FnExactScriptText: laid · FnExactParseScript: laid · FnActs: laid · FnTorn: laid · FnOneByte: laid · FnScripts: laid · FnExactJournalRead: laid.
  DERIVED. THE GIVEN ROWS OF THIS SEAT. 13 by the template 'for every input the law returns true; each argument reads behind the call as it read before'; 0 by the template 'total and deterministic' (their statements: YtebiefhfhjgmaaaDoorTotals.lean).
  GIVEN WITH THE SEED: the statements are not yours to turn. If you find one false, say at which input.
  Laid BY PROGRAM, IN A SANDBOX (cutbox-rows.mjs): the forced cells as the released guide's own fill.sh prints them over the translation 447bae91f92c8c54… (all of the seat's roots in one cut). By AI agents, Wed Nov 11 2026. No macro, syntax, notation, axiom, sorry.
-/
import Derived.Test.YtebiefhfhjgmaaaDoorChecked
import GoSem.PinnedTables
import GoSem.Claim
import GoSem.ClaimJoined
import GoSem.ClaimMapViews
import Derived.JoinedTies
import Derived.KernelRfl
namespace Go.Proofs.YtebiefhfhjgmaaaDoor
/- THE CELL 'sum', in the pinned program and in every row, IS THE sha256 OF THE DUMP (.gsa) THAT YtebiefhfhjgmaaaDoorProg.lean LOADS. Nothing in Lean hashes anything: it is a label: what it is worth is what the hold of that sum in a sandbox is worth. -/
noncomputable def Tryd.pinned : Pinned := { name := "ytebiefhfhjgmaaadoor", sum := "447bae91f92c8c5454e8a9afdf2239025e23e3115d83b0d96d018e17bf665584", checked := Tryd.checked }
namespace Rows
def none {H : Type} : Left H := { results := [], args := [] }

/- WHAT THE LISTED PACKAGE-LEVEL VARIABLES READ AS WHEN THE CALL BEGINS. Each datum BY PROGRAM (the guide's laid-datum.mjs) off the statement by which the dump's own 'gosem.cut.vars' lays the variable. In a bare row this is a premise. The card (YtebiefhfhjgmaaaDoorCards.lean) ties it to the program's text. -/
def laid_math_bits_deBruijn32tab {H : Type} : DataW H := .agg [.lit (.int .u8 0), .lit (.int .u8 1), .lit (.int .u8 28), .lit (.int .u8 2), .lit (.int .u8 29), .lit (.int .u8 14), .lit (.int .u8 24), .lit (.int .u8 3), .lit (.int .u8 30), .lit (.int .u8 22), .lit (.int .u8 20), .lit (.int .u8 15), .lit (.int .u8 25), .lit (.int .u8 17), .lit (.int .u8 4), .lit (.int .u8 8), .lit (.int .u8 31), .lit (.int .u8 27), .lit (.int .u8 13), .lit (.int .u8 23), .lit (.int .u8 21), .lit (.int .u8 19), .lit (.int .u8 16), .lit (.int .u8 7), .lit (.int .u8 26), .lit (.int .u8 12), .lit (.int .u8 18), .lit (.int .u8 6), .lit (.int .u8 11), .lit (.int .u8 5), .lit (.int .u8 10), .lit (.int .u8 9)]
def laid_math_bits_deBruijn64tab {H : Type} : DataW H := .agg [.lit (.int .u8 0), .lit (.int .u8 1), .lit (.int .u8 56), .lit (.int .u8 2), .lit (.int .u8 57), .lit (.int .u8 49), .lit (.int .u8 28), .lit (.int .u8 3), .lit (.int .u8 61), .lit (.int .u8 58), .lit (.int .u8 42), .lit (.int .u8 50), .lit (.int .u8 38), .lit (.int .u8 29), .lit (.int .u8 17), .lit (.int .u8 4), .lit (.int .u8 62), .lit (.int .u8 47), .lit (.int .u8 59), .lit (.int .u8 36), .lit (.int .u8 45), .lit (.int .u8 43), .lit (.int .u8 51), .lit (.int .u8 22), .lit (.int .u8 53), .lit (.int .u8 39), .lit (.int .u8 33), .lit (.int .u8 30), .lit (.int .u8 24), .lit (.int .u8 18), .lit (.int .u8 12), .lit (.int .u8 5), .lit (.int .u8 63), .lit (.int .u8 55), .lit (.int .u8 48), .lit (.int .u8 27), .lit (.int .u8 60), .lit (.int .u8 41), .lit (.int .u8 37), .lit (.int .u8 16), .lit (.int .u8 46), .lit (.int .u8 35), .lit (.int .u8 44), .lit (.int .u8 21), .lit (.int .u8 52), .lit (.int .u8 32), .lit (.int .u8 23), .lit (.int .u8 11), .lit (.int .u8 54), .lit (.int .u8 26), .lit (.int .u8 40), .lit (.int .u8 15), .lit (.int .u8 34), .lit (.int .u8 20), .lit (.int .u8 31), .lit (.int .u8 10), .lit (.int .u8 25), .lit (.int .u8 14), .lit (.int .u8 19), .lit (.int .u8 9), .lit (.int .u8 13), .lit (.int .u8 8), .lit (.int .u8 7), .lit (.int .u8 6)]
def laid_internal_strconv_uint64pow10 {H : Type} : DataW H := .agg [.lit (.int .u64 1), .lit (.int .u64 10), .lit (.int .u64 100), .lit (.int .u64 1000), .lit (.int .u64 10000), .lit (.int .u64 100000), .lit (.int .u64 1000000), .lit (.int .u64 10000000), .lit (.int .u64 100000000), .lit (.int .u64 1000000000), .lit (.int .u64 10000000000), .lit (.int .u64 100000000000), .lit (.int .u64 1000000000000), .lit (.int .u64 10000000000000), .lit (.int .u64 100000000000000), .lit (.int .u64 1000000000000000), .lit (.int .u64 10000000000000000), .lit (.int .u64 100000000000000000), .lit (.int .u64 1000000000000000000), .lit (.int .u64 10000000000000000000)]
def laid_unicode_utf8_acceptRanges {H : Type} : DataW H := .agg [.agg [.lit (.int .u8 128), .lit (.int .u8 191)], .agg [.lit (.int .u8 160), .lit (.int .u8 191)], .agg [.lit (.int .u8 128), .lit (.int .u8 159)], .agg [.lit (.int .u8 144), .lit (.int .u8 191)], .agg [.lit (.int .u8 128), .lit (.int .u8 143)], .agg [.lit (.int .u8 0), .lit (.int .u8 0)], .agg [.lit (.int .u8 0), .lit (.int .u8 0)], .agg [.lit (.int .u8 0), .lit (.int .u8 0)], .agg [.lit (.int .u8 0), .lit (.int .u8 0)], .agg [.lit (.int .u8 0), .lit (.int .u8 0)], .agg [.lit (.int .u8 0), .lit (.int .u8 0)], .agg [.lit (.int .u8 0), .lit (.int .u8 0)], .agg [.lit (.int .u8 0), .lit (.int .u8 0)], .agg [.lit (.int .u8 0), .lit (.int .u8 0)], .agg [.lit (.int .u8 0), .lit (.int .u8 0)], .agg [.lit (.int .u8 0), .lit (.int .u8 0)]]
/-- One of Go's own tables, pinned by name: the form's constant. -/
def laid_unicode_utf8_first : DataW Unit := Go.Pinned.utf8First

/-- 'laws.FnCodeNames': WHATEVER THE INPUT: true; the input reads as it did. -/
def fnCodeNamesSpec : ChangeSpec := { name := "fnCodeNames", fn := fun _ => fun
  | [d] => { results := [.lit (.bool true)], args := [d] }
  | _ => none }
def fnCodeNamesRow : OpenClaim := { program := "ytebiefhfhjgmaaadoor", sum := "447bae91f92c8c5454e8a9afdf2239025e23e3115d83b0d96d018e17bf665584", func := "loop.example/g00978/laws.FnCodeNames", spec := "fnCodeNames", named := ["internal/strconv.uint64pow10", "math/bits.deBruijn32tab", "math/bits.deBruijn64tab"], apart := false, laid := [("math/bits.deBruijn32tab", laid_math_bits_deBruijn32tab), ("math/bits.deBruijn64tab", laid_math_bits_deBruijn64tab), ("internal/strconv.uint64pow10", laid_internal_strconv_uint64pow10)] }
def FnCodeNamesSaid : Prop := fnCodeNamesRow.holds Tryd.pinned (OpenSpec.ofChange fnCodeNamesSpec)

/-- ITS FALSE NEIGHBOUR: 'it returns false'. Refute it at one input. -/
def fnCodeNamesWrong : ChangeSpec := { name := "fnCodeNames", fn := fun _ => fun
  | [d] => { results := [.lit (.bool false)], args := [d] }
  | _ => none }
def FnCodeNamesWrongFalsely : Prop := fnCodeNamesRow.holds Tryd.pinned (OpenSpec.ofChange fnCodeNamesWrong)

/-- 'laws.FnExactFormatCode': WHATEVER THE INPUT: true; the input reads as it did. -/
def fnExactFormatCodeSpec : ChangeSpec := { name := "fnExactFormatCode", fn := fun _ => fun
  | [d1, d2] => { results := [.lit (.bool true)], args := [d1, d2] }
  | _ => none }
def fnExactFormatCodeRow : OpenClaim := { program := "ytebiefhfhjgmaaadoor", sum := "447bae91f92c8c5454e8a9afdf2239025e23e3115d83b0d96d018e17bf665584", func := "loop.example/g00978/laws.FnExactFormatCode", spec := "fnExactFormatCode", named := ["internal/strconv.uint64pow10", "math/bits.deBruijn32tab", "math/bits.deBruijn64tab"], apart := false, laid := [("math/bits.deBruijn32tab", laid_math_bits_deBruijn32tab), ("math/bits.deBruijn64tab", laid_math_bits_deBruijn64tab), ("internal/strconv.uint64pow10", laid_internal_strconv_uint64pow10)] }
def FnExactFormatCodeSaid : Prop := fnExactFormatCodeRow.holds Tryd.pinned (OpenSpec.ofChange fnExactFormatCodeSpec)

/-- ITS FALSE NEIGHBOUR: 'it returns false'. Refute it at one input. -/
def fnExactFormatCodeWrong : ChangeSpec := { name := "fnExactFormatCode", fn := fun _ => fun
  | [d1, d2] => { results := [.lit (.bool false)], args := [d1, d2] }
  | _ => none }
def FnExactFormatCodeWrongFalsely : Prop := fnExactFormatCodeRow.holds Tryd.pinned (OpenSpec.ofChange fnExactFormatCodeWrong)

/-- 'laws.FnExactFormatSpan': WHATEVER THE INPUT: true; the input reads as it did. -/
def fnExactFormatSpanSpec : ChangeSpec := { name := "fnExactFormatSpan", fn := fun _ => fun
  | [d] => { results := [.lit (.bool true)], args := [d] }
  | _ => none }
def fnExactFormatSpanRow : OpenClaim := { program := "ytebiefhfhjgmaaadoor", sum := "447bae91f92c8c5454e8a9afdf2239025e23e3115d83b0d96d018e17bf665584", func := "loop.example/g00978/laws.FnExactFormatSpan", spec := "fnExactFormatSpan", named := ["internal/strconv.uint64pow10", "math/bits.deBruijn32tab", "math/bits.deBruijn64tab"], apart := false, laid := [("math/bits.deBruijn32tab", laid_math_bits_deBruijn32tab), ("math/bits.deBruijn64tab", laid_math_bits_deBruijn64tab), ("internal/strconv.uint64pow10", laid_internal_strconv_uint64pow10)] }
def FnExactFormatSpanSaid : Prop := fnExactFormatSpanRow.holds Tryd.pinned (OpenSpec.ofChange fnExactFormatSpanSpec)

/-- ITS FALSE NEIGHBOUR: 'it returns false'. Refute it at one input. -/
def fnExactFormatSpanWrong : ChangeSpec := { name := "fnExactFormatSpan", fn := fun _ => fun
  | [d] => { results := [.lit (.bool false)], args := [d] }
  | _ => none }
def FnExactFormatSpanWrongFalsely : Prop := fnExactFormatSpanRow.holds Tryd.pinned (OpenSpec.ofChange fnExactFormatSpanWrong)

/-- 'laws.FnExactFormatAccount': WHATEVER THE INPUT: true; the input reads as it did. -/
def fnExactFormatAccountSpec : ChangeSpec := { name := "fnExactFormatAccount", fn := fun _ => fun
  | [d] => { results := [.lit (.bool true)], args := [d] }
  | _ => none }
def fnExactFormatAccountRow : OpenClaim := { program := "ytebiefhfhjgmaaadoor", sum := "447bae91f92c8c5454e8a9afdf2239025e23e3115d83b0d96d018e17bf665584", func := "loop.example/g00978/laws.FnExactFormatAccount", spec := "fnExactFormatAccount", inPlace := ["internal/abi.NoEscape", "internal/bytealg.MakeNoZero"], named := ["internal/strconv.uint64pow10", "math/bits.deBruijn32tab", "math/bits.deBruijn64tab"], apart := false, laid := [("math/bits.deBruijn32tab", laid_math_bits_deBruijn32tab), ("math/bits.deBruijn64tab", laid_math_bits_deBruijn64tab), ("internal/strconv.uint64pow10", laid_internal_strconv_uint64pow10)] }
def FnExactFormatAccountSaid : Prop := fnExactFormatAccountRow.holds Tryd.pinned (OpenSpec.ofChange fnExactFormatAccountSpec)

/-- ITS FALSE NEIGHBOUR: 'it returns false'. Refute it at one input. -/
def fnExactFormatAccountWrong : ChangeSpec := { name := "fnExactFormatAccount", fn := fun _ => fun
  | [d] => { results := [.lit (.bool false)], args := [d] }
  | _ => none }
def FnExactFormatAccountWrongFalsely : Prop := fnExactFormatAccountRow.holds Tryd.pinned (OpenSpec.ofChange fnExactFormatAccountWrong)

/-- 'laws.FnExactFormatAct': WHATEVER THE INPUT: true; the input reads as it did. -/
def fnExactFormatActSpec : ChangeSpec := { name := "fnExactFormatAct", fn := fun _ => fun
  | [d] => { results := [.lit (.bool true)], args := [d] }
  | _ => none }
def fnExactFormatActRow : OpenClaim := { program := "ytebiefhfhjgmaaadoor", sum := "447bae91f92c8c5454e8a9afdf2239025e23e3115d83b0d96d018e17bf665584", func := "loop.example/g00978/laws.FnExactFormatAct", spec := "fnExactFormatAct", named := ["internal/strconv.uint64pow10", "math/bits.deBruijn32tab", "math/bits.deBruijn64tab"], apart := false, laid := [("math/bits.deBruijn32tab", laid_math_bits_deBruijn32tab), ("math/bits.deBruijn64tab", laid_math_bits_deBruijn64tab), ("internal/strconv.uint64pow10", laid_internal_strconv_uint64pow10)] }
def FnExactFormatActSaid : Prop := fnExactFormatActRow.holds Tryd.pinned (OpenSpec.ofChange fnExactFormatActSpec)

/-- ITS FALSE NEIGHBOUR: 'it returns false'. Refute it at one input. -/
def fnExactFormatActWrong : ChangeSpec := { name := "fnExactFormatAct", fn := fun _ => fun
  | [d] => { results := [.lit (.bool false)], args := [d] }
  | _ => none }
def FnExactFormatActWrongFalsely : Prop := fnExactFormatActRow.holds Tryd.pinned (OpenSpec.ofChange fnExactFormatActWrong)

/-- 'laws.FnExactJournalAdd': WHATEVER THE INPUT: true; the input reads as it did. -/
def fnExactJournalAddSpec : ChangeSpec := { name := "fnExactJournalAdd", fn := fun _ => fun
  | [d1, d2] => { results := [.lit (.bool true)], args := [d1, d2] }
  | _ => none }
def fnExactJournalAddRow : OpenClaim := { program := "ytebiefhfhjgmaaadoor", sum := "447bae91f92c8c5454e8a9afdf2239025e23e3115d83b0d96d018e17bf665584", func := "loop.example/g00978/laws.FnExactJournalAdd", spec := "fnExactJournalAdd", named := ["internal/strconv.uint64pow10", "math/bits.deBruijn32tab", "math/bits.deBruijn64tab"], apart := false, laid := [("math/bits.deBruijn32tab", laid_math_bits_deBruijn32tab), ("math/bits.deBruijn64tab", laid_math_bits_deBruijn64tab), ("internal/strconv.uint64pow10", laid_internal_strconv_uint64pow10)] }
def FnExactJournalAddSaid : Prop := fnExactJournalAddRow.holds Tryd.pinned (OpenSpec.ofChange fnExactJournalAddSpec)

/-- ITS FALSE NEIGHBOUR: 'it returns false'. Refute it at one input. -/
def fnExactJournalAddWrong : ChangeSpec := { name := "fnExactJournalAdd", fn := fun _ => fun
  | [d1, d2] => { results := [.lit (.bool false)], args := [d1, d2] }
  | _ => none }
def FnExactJournalAddWrongFalsely : Prop := fnExactJournalAddRow.holds Tryd.pinned (OpenSpec.ofChange fnExactJournalAddWrong)

/-- 'laws.FnExactScriptText': WHATEVER THE INPUT: true; the input reads as it did. -/
def fnExactScriptTextSpec : ChangeSpec := { name := "fnExactScriptText", fn := fun _ => fun
  | [d] => { results := [.lit (.bool true)], args := [d] }
  | _ => none }
def fnExactScriptTextRow : OpenClaim := { program := "ytebiefhfhjgmaaadoor", sum := "447bae91f92c8c5454e8a9afdf2239025e23e3115d83b0d96d018e17bf665584", func := "loop.example/g00978/laws.FnExactScriptText", spec := "fnExactScriptText", named := ["internal/strconv.uint64pow10", "math/bits.deBruijn32tab", "math/bits.deBruijn64tab"], apart := false, laid := [("math/bits.deBruijn32tab", laid_math_bits_deBruijn32tab), ("math/bits.deBruijn64tab", laid_math_bits_deBruijn64tab), ("internal/strconv.uint64pow10", laid_internal_strconv_uint64pow10)] }
def FnExactScriptTextSaid : Prop := fnExactScriptTextRow.holds Tryd.pinned (OpenSpec.ofChange fnExactScriptTextSpec)

/-- ITS FALSE NEIGHBOUR: 'it returns false'. Refute it at one input. -/
def fnExactScriptTextWrong : ChangeSpec := { name := "fnExactScriptText", fn := fun _ => fun
  | [d] => { results := [.lit (.bool false)], args := [d] }
  | _ => none }
def FnExactScriptTextWrongFalsely : Prop := fnExactScriptTextRow.holds Tryd.pinned (OpenSpec.ofChange fnExactScriptTextWrong)

/-- 'laws.FnExactParseScript': WHATEVER THE INPUT: true; the input reads as it did. -/
def fnExactParseScriptSpec : ChangeSpec := { name := "fnExactParseScript", fn := fun _ => fun
  | [d] => { results := [.lit (.bool true)], args := [d] }
  | _ => none }
def fnExactParseScriptRow : OpenClaim := { program := "ytebiefhfhjgmaaadoor", sum := "447bae91f92c8c5454e8a9afdf2239025e23e3115d83b0d96d018e17bf665584", func := "loop.example/g00978/laws.FnExactParseScript", spec := "fnExactParseScript", inPlace := ["internal/bytealg.CountString", "internal/bytealg.IndexByteString", "internal/bytealg.IndexString"], named := ["unicode/utf8.first", "unicode/utf8.acceptRanges", "internal/bytealg.MaxLen"], apart := false, laid := [("unicode/utf8.acceptRanges", laid_unicode_utf8_acceptRanges), ("unicode/utf8.first", laid_unicode_utf8_first)] }
def FnExactParseScriptSaid : Prop := fnExactParseScriptRow.holds Tryd.pinned (OpenSpec.ofChange fnExactParseScriptSpec)

/-- ITS FALSE NEIGHBOUR: 'it returns false'. Refute it at one input. -/
def fnExactParseScriptWrong : ChangeSpec := { name := "fnExactParseScript", fn := fun _ => fun
  | [d] => { results := [.lit (.bool false)], args := [d] }
  | _ => none }
def FnExactParseScriptWrongFalsely : Prop := fnExactParseScriptRow.holds Tryd.pinned (OpenSpec.ofChange fnExactParseScriptWrong)

/-- 'laws.FnActs': WHATEVER THE INPUT: true; the input reads as it did. -/
def fnActsSpec : ChangeSpec := { name := "fnActs", fn := fun _ => fun
  | [d] => { results := [.lit (.bool true)], args := [d] }
  | _ => none }
def fnActsRow : OpenClaim := { program := "ytebiefhfhjgmaaadoor", sum := "447bae91f92c8c5454e8a9afdf2239025e23e3115d83b0d96d018e17bf665584", func := "loop.example/g00978/laws.FnActs", spec := "fnActs", inPlace := ["internal/bytealg.IndexByteString", "internal/bytealg.IndexString"], named := ["internal/strconv.uint64pow10", "math/bits.deBruijn32tab", "math/bits.deBruijn64tab", "internal/bytealg.MaxLen"], apart := false, laid := [("math/bits.deBruijn32tab", laid_math_bits_deBruijn32tab), ("math/bits.deBruijn64tab", laid_math_bits_deBruijn64tab), ("internal/strconv.uint64pow10", laid_internal_strconv_uint64pow10)] }
def FnActsSaid : Prop := fnActsRow.holds Tryd.pinned (OpenSpec.ofChange fnActsSpec)

/-- ITS FALSE NEIGHBOUR: 'it returns false'. Refute it at one input. -/
def fnActsWrong : ChangeSpec := { name := "fnActs", fn := fun _ => fun
  | [d] => { results := [.lit (.bool false)], args := [d] }
  | _ => none }
def FnActsWrongFalsely : Prop := fnActsRow.holds Tryd.pinned (OpenSpec.ofChange fnActsWrong)

/-- 'laws.FnTorn': WHATEVER THE INPUT: true; the input reads as it did. -/
def fnTornSpec : ChangeSpec := { name := "fnTorn", fn := fun _ => fun
  | [d] => { results := [.lit (.bool true)], args := [d] }
  | _ => none }
def fnTornRow : OpenClaim := { program := "ytebiefhfhjgmaaadoor", sum := "447bae91f92c8c5454e8a9afdf2239025e23e3115d83b0d96d018e17bf665584", func := "loop.example/g00978/laws.FnTorn", spec := "fnTorn", inPlace := ["internal/bytealg.IndexByteString", "internal/bytealg.IndexString"], named := ["internal/strconv.uint64pow10", "math/bits.deBruijn32tab", "math/bits.deBruijn64tab", "internal/bytealg.MaxLen"], apart := false, laid := [("math/bits.deBruijn32tab", laid_math_bits_deBruijn32tab), ("math/bits.deBruijn64tab", laid_math_bits_deBruijn64tab), ("internal/strconv.uint64pow10", laid_internal_strconv_uint64pow10)] }
def FnTornSaid : Prop := fnTornRow.holds Tryd.pinned (OpenSpec.ofChange fnTornSpec)

/-- ITS FALSE NEIGHBOUR: 'it returns false'. Refute it at one input. -/
def fnTornWrong : ChangeSpec := { name := "fnTorn", fn := fun _ => fun
  | [d] => { results := [.lit (.bool false)], args := [d] }
  | _ => none }
def FnTornWrongFalsely : Prop := fnTornRow.holds Tryd.pinned (OpenSpec.ofChange fnTornWrong)

/-- 'laws.FnOneByte': WHATEVER THE INPUT: true; the input reads as it did. -/
def fnOneByteSpec : ChangeSpec := { name := "fnOneByte", fn := fun _ => fun
  | [d] => { results := [.lit (.bool true)], args := [d] }
  | _ => none }
def fnOneByteRow : OpenClaim := { program := "ytebiefhfhjgmaaadoor", sum := "447bae91f92c8c5454e8a9afdf2239025e23e3115d83b0d96d018e17bf665584", func := "loop.example/g00978/laws.FnOneByte", spec := "fnOneByte", inPlace := ["internal/bytealg.IndexByteString", "internal/bytealg.IndexString"], named := ["internal/strconv.uint64pow10", "math/bits.deBruijn32tab", "math/bits.deBruijn64tab", "internal/bytealg.MaxLen"], apart := false, laid := [("math/bits.deBruijn32tab", laid_math_bits_deBruijn32tab), ("math/bits.deBruijn64tab", laid_math_bits_deBruijn64tab), ("internal/strconv.uint64pow10", laid_internal_strconv_uint64pow10)] }
def FnOneByteSaid : Prop := fnOneByteRow.holds Tryd.pinned (OpenSpec.ofChange fnOneByteSpec)

/-- ITS FALSE NEIGHBOUR: 'it returns false'. Refute it at one input. -/
def fnOneByteWrong : ChangeSpec := { name := "fnOneByte", fn := fun _ => fun
  | [d] => { results := [.lit (.bool false)], args := [d] }
  | _ => none }
def FnOneByteWrongFalsely : Prop := fnOneByteRow.holds Tryd.pinned (OpenSpec.ofChange fnOneByteWrong)

/-- 'laws.FnScripts': WHATEVER THE INPUT: true; the input reads as it did. -/
def fnScriptsSpec : ChangeSpec := { name := "fnScripts", fn := fun _ => fun
  | [d] => { results := [.lit (.bool true)], args := [d] }
  | _ => none }
def fnScriptsRow : OpenClaim := { program := "ytebiefhfhjgmaaadoor", sum := "447bae91f92c8c5454e8a9afdf2239025e23e3115d83b0d96d018e17bf665584", func := "loop.example/g00978/laws.FnScripts", spec := "fnScripts", inPlace := ["internal/bytealg.CountString", "internal/bytealg.IndexByteString", "internal/bytealg.IndexString"], named := ["internal/strconv.uint64pow10", "math/bits.deBruijn32tab", "math/bits.deBruijn64tab", "unicode/utf8.first", "unicode/utf8.acceptRanges", "internal/bytealg.MaxLen"], apart := false, laid := [("math/bits.deBruijn32tab", laid_math_bits_deBruijn32tab), ("math/bits.deBruijn64tab", laid_math_bits_deBruijn64tab), ("internal/strconv.uint64pow10", laid_internal_strconv_uint64pow10), ("unicode/utf8.acceptRanges", laid_unicode_utf8_acceptRanges), ("unicode/utf8.first", laid_unicode_utf8_first)] }
def FnScriptsSaid : Prop := fnScriptsRow.holds Tryd.pinned (OpenSpec.ofChange fnScriptsSpec)

/-- ITS FALSE NEIGHBOUR: 'it returns false'. Refute it at one input. -/
def fnScriptsWrong : ChangeSpec := { name := "fnScripts", fn := fun _ => fun
  | [d] => { results := [.lit (.bool false)], args := [d] }
  | _ => none }
def FnScriptsWrongFalsely : Prop := fnScriptsRow.holds Tryd.pinned (OpenSpec.ofChange fnScriptsWrong)

/-- 'laws.FnExactJournalRead': WHATEVER THE INPUT: true; the input reads as it did. -/
def fnExactJournalReadSpec : ChangeSpec := { name := "fnExactJournalRead", fn := fun _ => fun
  | [d] => { results := [.lit (.bool true)], args := [d] }
  | _ => none }
def fnExactJournalReadRow : OpenClaim := { program := "ytebiefhfhjgmaaadoor", sum := "447bae91f92c8c5454e8a9afdf2239025e23e3115d83b0d96d018e17bf665584", func := "loop.example/g00978/laws.FnExactJournalRead", spec := "fnExactJournalRead", inPlace := ["internal/bytealg.IndexByteString", "internal/bytealg.IndexString"], named := ["internal/bytealg.MaxLen", "internal/strconv.uint64pow10", "math/bits.deBruijn32tab", "math/bits.deBruijn64tab"], apart := false, laid := [("math/bits.deBruijn32tab", laid_math_bits_deBruijn32tab), ("math/bits.deBruijn64tab", laid_math_bits_deBruijn64tab), ("internal/strconv.uint64pow10", laid_internal_strconv_uint64pow10)] }
def FnExactJournalReadSaid : Prop := fnExactJournalReadRow.holds Tryd.pinned (OpenSpec.ofChange fnExactJournalReadSpec)

/-- ITS FALSE NEIGHBOUR: 'it returns false'. Refute it at one input. -/
def fnExactJournalReadWrong : ChangeSpec := { name := "fnExactJournalRead", fn := fun _ => fun
  | [d] => { results := [.lit (.bool false)], args := [d] }
  | _ => none }
def FnExactJournalReadWrongFalsely : Prop := fnExactJournalReadRow.holds Tryd.pinned (OpenSpec.ofChange fnExactJournalReadWrong)

/- THE SECOND FORM. 'bulk': how many values and letters a reading holds, each counted each time it is reached (what is shared counts as often as it is met; a slice's spare places count too). A statement '..UptoSaid' is the law's where the arguments, and the package variables that the reading takes, are together of bulk at most 1048576: NARROWER than '..Said'. Prove '..Said' where nothing that the law and all that it calls make is longer than what came in: it says more and counts as full. Else prove '..UptoSaid'. A law counts once. -/
mutual
def uptoBulk {H : Type} : DataW H → Nat
  | .lit (.string bytes) => bytes.length + 1
  | .lit _ => 1
  | .nil => 1
  | .ptr d => uptoBulk d + 1
  | .slice elems spare => uptoBulkAll elems + uptoBulkAll spare + 1
  | .agg parts => uptoBulkAll parts + 1
  | .iface _ d => uptoBulk d + 1
  | .map entries => uptoBulkEntries entries + 1
  | .held _ => 1
def uptoBulkAll {H : Type} : List (DataW H) → Nat
  | [] => 0
  | d :: r => uptoBulk d + uptoBulkAll r
def uptoBulkEntries {H : Type} : List (Lit × DataW H) → Nat
  | [] => 0
  | x :: r => uptoBulkEntry x + uptoBulkEntries r
def uptoBulkEntry {H : Type} : Lit × DataW H → Nat
  | (.string bytes, d) => bytes.length + uptoBulk d + 1
  | (_, d) => uptoBulk d + 1
 end
def uptoSmall : (H : Type) → List (DataW H) → Bool := fun _ ds => decide (uptoBulkAll ds ≤ 1048576)
def OpenSpec.upto (s : _root_.Go.ChangeSpec) : _root_.Go.OpenSpec := { _root_.Go.OpenSpec.ofChange s with cond := some uptoSmall }

/-- 'laws.FnCodeNames', WHERE WHAT IT READS IS OF BULK AT MOST 1048576: true; the input reads as it did. -/
def fnCodeNamesUptoRow : OpenClaim := { program := "ytebiefhfhjgmaaadoor", sum := "447bae91f92c8c5454e8a9afdf2239025e23e3115d83b0d96d018e17bf665584", func := "loop.example/g00978/laws.FnCodeNames", spec := "fnCodeNames", named := ["internal/strconv.uint64pow10", "math/bits.deBruijn32tab", "math/bits.deBruijn64tab"], apart := false, laid := [("math/bits.deBruijn32tab", laid_math_bits_deBruijn32tab), ("math/bits.deBruijn64tab", laid_math_bits_deBruijn64tab), ("internal/strconv.uint64pow10", laid_internal_strconv_uint64pow10)], narrowed := true }
def FnCodeNamesUptoSaid : Prop := fnCodeNamesUptoRow.holds Tryd.pinned (OpenSpec.upto fnCodeNamesSpec)

/-- 'laws.FnExactFormatCode', WHERE WHAT IT READS IS OF BULK AT MOST 1048576: true; the input reads as it did. -/
def fnExactFormatCodeUptoRow : OpenClaim := { program := "ytebiefhfhjgmaaadoor", sum := "447bae91f92c8c5454e8a9afdf2239025e23e3115d83b0d96d018e17bf665584", func := "loop.example/g00978/laws.FnExactFormatCode", spec := "fnExactFormatCode", named := ["internal/strconv.uint64pow10", "math/bits.deBruijn32tab", "math/bits.deBruijn64tab"], apart := false, laid := [("math/bits.deBruijn32tab", laid_math_bits_deBruijn32tab), ("math/bits.deBruijn64tab", laid_math_bits_deBruijn64tab), ("internal/strconv.uint64pow10", laid_internal_strconv_uint64pow10)], narrowed := true }
def FnExactFormatCodeUptoSaid : Prop := fnExactFormatCodeUptoRow.holds Tryd.pinned (OpenSpec.upto fnExactFormatCodeSpec)

/-- 'laws.FnExactFormatSpan', WHERE WHAT IT READS IS OF BULK AT MOST 1048576: true; the input reads as it did. -/
def fnExactFormatSpanUptoRow : OpenClaim := { program := "ytebiefhfhjgmaaadoor", sum := "447bae91f92c8c5454e8a9afdf2239025e23e3115d83b0d96d018e17bf665584", func := "loop.example/g00978/laws.FnExactFormatSpan", spec := "fnExactFormatSpan", named := ["internal/strconv.uint64pow10", "math/bits.deBruijn32tab", "math/bits.deBruijn64tab"], apart := false, laid := [("math/bits.deBruijn32tab", laid_math_bits_deBruijn32tab), ("math/bits.deBruijn64tab", laid_math_bits_deBruijn64tab), ("internal/strconv.uint64pow10", laid_internal_strconv_uint64pow10)], narrowed := true }
def FnExactFormatSpanUptoSaid : Prop := fnExactFormatSpanUptoRow.holds Tryd.pinned (OpenSpec.upto fnExactFormatSpanSpec)

/-- 'laws.FnExactFormatAccount', WHERE WHAT IT READS IS OF BULK AT MOST 1048576: true; the input reads as it did. -/
def fnExactFormatAccountUptoRow : OpenClaim := { program := "ytebiefhfhjgmaaadoor", sum := "447bae91f92c8c5454e8a9afdf2239025e23e3115d83b0d96d018e17bf665584", func := "loop.example/g00978/laws.FnExactFormatAccount", spec := "fnExactFormatAccount", inPlace := ["internal/abi.NoEscape", "internal/bytealg.MakeNoZero"], named := ["internal/strconv.uint64pow10", "math/bits.deBruijn32tab", "math/bits.deBruijn64tab"], apart := false, laid := [("math/bits.deBruijn32tab", laid_math_bits_deBruijn32tab), ("math/bits.deBruijn64tab", laid_math_bits_deBruijn64tab), ("internal/strconv.uint64pow10", laid_internal_strconv_uint64pow10)], narrowed := true }
def FnExactFormatAccountUptoSaid : Prop := fnExactFormatAccountUptoRow.holds Tryd.pinned (OpenSpec.upto fnExactFormatAccountSpec)

/-- 'laws.FnExactFormatAct', WHERE WHAT IT READS IS OF BULK AT MOST 1048576: true; the input reads as it did. -/
def fnExactFormatActUptoRow : OpenClaim := { program := "ytebiefhfhjgmaaadoor", sum := "447bae91f92c8c5454e8a9afdf2239025e23e3115d83b0d96d018e17bf665584", func := "loop.example/g00978/laws.FnExactFormatAct", spec := "fnExactFormatAct", named := ["internal/strconv.uint64pow10", "math/bits.deBruijn32tab", "math/bits.deBruijn64tab"], apart := false, laid := [("math/bits.deBruijn32tab", laid_math_bits_deBruijn32tab), ("math/bits.deBruijn64tab", laid_math_bits_deBruijn64tab), ("internal/strconv.uint64pow10", laid_internal_strconv_uint64pow10)], narrowed := true }
def FnExactFormatActUptoSaid : Prop := fnExactFormatActUptoRow.holds Tryd.pinned (OpenSpec.upto fnExactFormatActSpec)

/-- 'laws.FnExactJournalAdd', WHERE WHAT IT READS IS OF BULK AT MOST 1048576: true; the input reads as it did. -/
def fnExactJournalAddUptoRow : OpenClaim := { program := "ytebiefhfhjgmaaadoor", sum := "447bae91f92c8c5454e8a9afdf2239025e23e3115d83b0d96d018e17bf665584", func := "loop.example/g00978/laws.FnExactJournalAdd", spec := "fnExactJournalAdd", named := ["internal/strconv.uint64pow10", "math/bits.deBruijn32tab", "math/bits.deBruijn64tab"], apart := false, laid := [("math/bits.deBruijn32tab", laid_math_bits_deBruijn32tab), ("math/bits.deBruijn64tab", laid_math_bits_deBruijn64tab), ("internal/strconv.uint64pow10", laid_internal_strconv_uint64pow10)], narrowed := true }
def FnExactJournalAddUptoSaid : Prop := fnExactJournalAddUptoRow.holds Tryd.pinned (OpenSpec.upto fnExactJournalAddSpec)

/-- 'laws.FnExactScriptText', WHERE WHAT IT READS IS OF BULK AT MOST 1048576: true; the input reads as it did. -/
def fnExactScriptTextUptoRow : OpenClaim := { program := "ytebiefhfhjgmaaadoor", sum := "447bae91f92c8c5454e8a9afdf2239025e23e3115d83b0d96d018e17bf665584", func := "loop.example/g00978/laws.FnExactScriptText", spec := "fnExactScriptText", named := ["internal/strconv.uint64pow10", "math/bits.deBruijn32tab", "math/bits.deBruijn64tab"], apart := false, laid := [("math/bits.deBruijn32tab", laid_math_bits_deBruijn32tab), ("math/bits.deBruijn64tab", laid_math_bits_deBruijn64tab), ("internal/strconv.uint64pow10", laid_internal_strconv_uint64pow10)], narrowed := true }
def FnExactScriptTextUptoSaid : Prop := fnExactScriptTextUptoRow.holds Tryd.pinned (OpenSpec.upto fnExactScriptTextSpec)

/-- 'laws.FnExactParseScript', WHERE WHAT IT READS IS OF BULK AT MOST 1048576: true; the input reads as it did. -/
def fnExactParseScriptUptoRow : OpenClaim := { program := "ytebiefhfhjgmaaadoor", sum := "447bae91f92c8c5454e8a9afdf2239025e23e3115d83b0d96d018e17bf665584", func := "loop.example/g00978/laws.FnExactParseScript", spec := "fnExactParseScript", inPlace := ["internal/bytealg.CountString", "internal/bytealg.IndexByteString", "internal/bytealg.IndexString"], named := ["unicode/utf8.first", "unicode/utf8.acceptRanges", "internal/bytealg.MaxLen"], apart := false, laid := [("unicode/utf8.acceptRanges", laid_unicode_utf8_acceptRanges), ("unicode/utf8.first", laid_unicode_utf8_first)], narrowed := true }
def FnExactParseScriptUptoSaid : Prop := fnExactParseScriptUptoRow.holds Tryd.pinned (OpenSpec.upto fnExactParseScriptSpec)

/-- 'laws.FnActs', WHERE WHAT IT READS IS OF BULK AT MOST 1048576: true; the input reads as it did. -/
def fnActsUptoRow : OpenClaim := { program := "ytebiefhfhjgmaaadoor", sum := "447bae91f92c8c5454e8a9afdf2239025e23e3115d83b0d96d018e17bf665584", func := "loop.example/g00978/laws.FnActs", spec := "fnActs", inPlace := ["internal/bytealg.IndexByteString", "internal/bytealg.IndexString"], named := ["internal/strconv.uint64pow10", "math/bits.deBruijn32tab", "math/bits.deBruijn64tab", "internal/bytealg.MaxLen"], apart := false, laid := [("math/bits.deBruijn32tab", laid_math_bits_deBruijn32tab), ("math/bits.deBruijn64tab", laid_math_bits_deBruijn64tab), ("internal/strconv.uint64pow10", laid_internal_strconv_uint64pow10)], narrowed := true }
def FnActsUptoSaid : Prop := fnActsUptoRow.holds Tryd.pinned (OpenSpec.upto fnActsSpec)

/-- 'laws.FnTorn', WHERE WHAT IT READS IS OF BULK AT MOST 1048576: true; the input reads as it did. -/
def fnTornUptoRow : OpenClaim := { program := "ytebiefhfhjgmaaadoor", sum := "447bae91f92c8c5454e8a9afdf2239025e23e3115d83b0d96d018e17bf665584", func := "loop.example/g00978/laws.FnTorn", spec := "fnTorn", inPlace := ["internal/bytealg.IndexByteString", "internal/bytealg.IndexString"], named := ["internal/strconv.uint64pow10", "math/bits.deBruijn32tab", "math/bits.deBruijn64tab", "internal/bytealg.MaxLen"], apart := false, laid := [("math/bits.deBruijn32tab", laid_math_bits_deBruijn32tab), ("math/bits.deBruijn64tab", laid_math_bits_deBruijn64tab), ("internal/strconv.uint64pow10", laid_internal_strconv_uint64pow10)], narrowed := true }
def FnTornUptoSaid : Prop := fnTornUptoRow.holds Tryd.pinned (OpenSpec.upto fnTornSpec)

/-- 'laws.FnOneByte', WHERE WHAT IT READS IS OF BULK AT MOST 1048576: true; the input reads as it did. -/
def fnOneByteUptoRow : OpenClaim := { program := "ytebiefhfhjgmaaadoor", sum := "447bae91f92c8c5454e8a9afdf2239025e23e3115d83b0d96d018e17bf665584", func := "loop.example/g00978/laws.FnOneByte", spec := "fnOneByte", inPlace := ["internal/bytealg.IndexByteString", "internal/bytealg.IndexString"], named := ["internal/strconv.uint64pow10", "math/bits.deBruijn32tab", "math/bits.deBruijn64tab", "internal/bytealg.MaxLen"], apart := false, laid := [("math/bits.deBruijn32tab", laid_math_bits_deBruijn32tab), ("math/bits.deBruijn64tab", laid_math_bits_deBruijn64tab), ("internal/strconv.uint64pow10", laid_internal_strconv_uint64pow10)], narrowed := true }
def FnOneByteUptoSaid : Prop := fnOneByteUptoRow.holds Tryd.pinned (OpenSpec.upto fnOneByteSpec)

/-- 'laws.FnScripts', WHERE WHAT IT READS IS OF BULK AT MOST 1048576: true; the input reads as it did. -/
def fnScriptsUptoRow : OpenClaim := { program := "ytebiefhfhjgmaaadoor", sum := "447bae91f92c8c5454e8a9afdf2239025e23e3115d83b0d96d018e17bf665584", func := "loop.example/g00978/laws.FnScripts", spec := "fnScripts", inPlace := ["internal/bytealg.CountString", "internal/bytealg.IndexByteString", "internal/bytealg.IndexString"], named := ["internal/strconv.uint64pow10", "math/bits.deBruijn32tab", "math/bits.deBruijn64tab", "unicode/utf8.first", "unicode/utf8.acceptRanges", "internal/bytealg.MaxLen"], apart := false, laid := [("math/bits.deBruijn32tab", laid_math_bits_deBruijn32tab), ("math/bits.deBruijn64tab", laid_math_bits_deBruijn64tab), ("internal/strconv.uint64pow10", laid_internal_strconv_uint64pow10), ("unicode/utf8.acceptRanges", laid_unicode_utf8_acceptRanges), ("unicode/utf8.first", laid_unicode_utf8_first)], narrowed := true }
def FnScriptsUptoSaid : Prop := fnScriptsUptoRow.holds Tryd.pinned (OpenSpec.upto fnScriptsSpec)

/-- 'laws.FnExactJournalRead', WHERE WHAT IT READS IS OF BULK AT MOST 1048576: true; the input reads as it did. -/
def fnExactJournalReadUptoRow : OpenClaim := { program := "ytebiefhfhjgmaaadoor", sum := "447bae91f92c8c5454e8a9afdf2239025e23e3115d83b0d96d018e17bf665584", func := "loop.example/g00978/laws.FnExactJournalRead", spec := "fnExactJournalRead", inPlace := ["internal/bytealg.IndexByteString", "internal/bytealg.IndexString"], named := ["internal/bytealg.MaxLen", "internal/strconv.uint64pow10", "math/bits.deBruijn32tab", "math/bits.deBruijn64tab"], apart := false, laid := [("math/bits.deBruijn32tab", laid_math_bits_deBruijn32tab), ("math/bits.deBruijn64tab", laid_math_bits_deBruijn64tab), ("internal/strconv.uint64pow10", laid_internal_strconv_uint64pow10)], narrowed := true }
def FnExactJournalReadUptoSaid : Prop := fnExactJournalReadUptoRow.holds Tryd.pinned (OpenSpec.upto fnExactJournalReadSpec)

end Rows
end Go.Proofs.YtebiefhfhjgmaaaDoor
