/-
  DERIVED. GIVEN WITH THE SEED: THE CARDS: each row of YtjooeakgbamfnaaGreatDoorRows.lean that lists a variable, with what it lists TIED to the program's text (the seventh form; the later family's looks); each row that meets fmt, with fmt's text TOLD by the authors' own Lean function (tested against real Go, not proved from fmt's source: count such statements apart). THE CARD IS WHAT COUNTS. Prove the row's statement (the work); the ties are given (YtjooeakgbamfnaaGreatDoorTie.lean); close each card by the builder's one call (the guide's Derived/Test/ToyasCard.lean, 'card_holds'). Laid BY PROGRAM, IN A SANDBOX (cutbox-door.mjs). By AI agents, Wed Nov 11 2026. No macro, syntax, notation, axiom, sorry.
-/
import Derived.Test.YtjooeakgbamfnaaGreatDoorRows
import GoSem.ClaimSeven
namespace Go.Proofs.YtjooeakgbamfnaaGreatDoor
namespace Rows

/-- THE TIED CARD OF 'laws.FnExactFormatHeap'. -/
def fnExactFormatHeapCard : Claim7 := { stood := { row := fnExactFormatHeapRow, standIns := [], harness := (true, "154ed4cf8d547253fd21a9c89c7c28cb2271e58a08d45a1e72828c27155768e6"), looks := false }, kinds := [], alts := [], laidByText := true, laidKinds := [.data, .data, .data], laidTests := true, laidLooks := .later }
def FnExactFormatHeapCardSaid : Prop := Claim7.holds Tryz.pinned (.plain (OpenSpec.ofChange fnExactFormatHeapSpec)) fnExactFormatHeapCard

/-- THE TIED CARD OF 'laws.FnReports'. -/
def fnReportsCard : Claim7 := { stood := { row := fnReportsRow, standIns := [], harness := (true, "154ed4cf8d547253fd21a9c89c7c28cb2271e58a08d45a1e72828c27155768e6"), looks := false }, kinds := [], alts := [], laidByText := true, laidKinds := [.data, .data, .data], laidTests := true, laidLooks := .later }
def FnReportsCardSaid : Prop := Claim7.holds Tryz.pinned (.plain (OpenSpec.ofChange fnReportsSpec)) fnReportsCard

/-- THE SECOND FORM's CARD OF 'laws.FnExactFormatHeap'. -/
def fnExactFormatHeapUptoCard : Claim7 := { stood := { row := fnExactFormatHeapUptoRow, standIns := [], harness := (true, "154ed4cf8d547253fd21a9c89c7c28cb2271e58a08d45a1e72828c27155768e6"), looks := false }, kinds := [], alts := [], laidByText := true, laidKinds := [.data, .data, .data], laidTests := true, laidLooks := .later }
def FnExactFormatHeapUptoCardSaid : Prop := Claim7.holds Tryz.pinned (.plain (OpenSpec.upto fnExactFormatHeapSpec)) fnExactFormatHeapUptoCard

/-- THE SECOND FORM's CARD OF 'laws.FnReports'. -/
def fnReportsUptoCard : Claim7 := { stood := { row := fnReportsUptoRow, standIns := [], harness := (true, "154ed4cf8d547253fd21a9c89c7c28cb2271e58a08d45a1e72828c27155768e6"), looks := false }, kinds := [], alts := [], laidByText := true, laidKinds := [.data, .data, .data], laidTests := true, laidLooks := .later }
def FnReportsUptoCardSaid : Prop := Claim7.holds Tryz.pinned (.plain (OpenSpec.upto fnReportsSpec)) fnReportsUptoCard
end Rows
end Go.Proofs.YtjooeakgbamfnaaGreatDoor
