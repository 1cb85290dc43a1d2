/-
  DERIVED. GIVEN WITH THE SEED: THE CARDS: each row of YtfdfgipemcbekaaGreatDoorRows.lean that lists a variable, with what it lists TIED to the program's text (the seventh form; the later family's looks); each row that meets fmt, with fmt's text TOLD by the authors' own Lean function (tested against real Go, not proved from fmt's source: count such statements apart). THE CARD IS WHAT COUNTS. Prove the row's statement (the work); the ties are given (YtfdfgipemcbekaaGreatDoorTie.lean); close each card by the builder's one call (the guide's Derived/Test/ToyasCard.lean, 'card_holds'). Laid BY PROGRAM, IN A SANDBOX (cutbox-door.mjs). By AI agents, Wed Nov 11 2026. No macro, syntax, notation, axiom, sorry.
-/
import Derived.Test.YtfdfgipemcbekaaGreatDoorRows
import GoSem.ClaimSeven
namespace Go.Proofs.YtfdfgipemcbekaaGreatDoor
namespace Rows

/-- THE TIED CARD OF 'laws.FnExactScriptFacts'. -/
def fnExactScriptFactsCard : Claim7 := { stood := { row := fnExactScriptFactsRow, standIns := [], harness := (true, "5061d22d18ae33350b0bf05b41abf26cd39f511b49158cdfdc751b47bc2f321e"), looks := false }, kinds := [], alts := [], laidByText := true, laidKinds := [.data, .pinned], laidTests := true, laidLooks := .later }
def FnExactScriptFactsCardSaid : Prop := Claim7.holds Tryz.pinned (.plain (OpenSpec.ofChange fnExactScriptFactsSpec)) fnExactScriptFactsCard

/-- THE SECOND FORM's CARD OF 'laws.FnExactScriptFacts'. -/
def fnExactScriptFactsUptoCard : Claim7 := { stood := { row := fnExactScriptFactsUptoRow, standIns := [], harness := (true, "5061d22d18ae33350b0bf05b41abf26cd39f511b49158cdfdc751b47bc2f321e"), looks := false }, kinds := [], alts := [], laidByText := true, laidKinds := [.data, .pinned], laidTests := true, laidLooks := .later }
def FnExactScriptFactsUptoCardSaid : Prop := Claim7.holds Tryz.pinned (.plain (OpenSpec.upto fnExactScriptFactsSpec)) fnExactScriptFactsUptoCard
end Rows
end Go.Proofs.YtfdfgipemcbekaaGreatDoor
