/-
  DERIVED. GIVEN WITH THE SEED: THE CARDS: each row of YtebiefhfhjgmaaaDoorRows.lean that lists a variable, with what it lists TIED to the program's text (the seventh form; the later family's looks); each row that meets fmt, with fmt's text TOLD by the authors' own Lean function (tested against real Go, not proved from fmt's source: count such statements apart). THE CARD IS WHAT COUNTS. Prove the row's statement (the work); the ties are given (YtebiefhfhjgmaaaDoorTie.lean); close each card by the builder's one call (the guide's Derived/Test/ToyasCard.lean, 'card_holds'). Laid BY PROGRAM, IN A SANDBOX (cutbox-door.mjs). By AI agents, Wed Nov 11 2026. No macro, syntax, notation, axiom, sorry.
-/
import Derived.Test.YtebiefhfhjgmaaaDoorRows
import GoSem.ClaimSeven
namespace Go.Proofs.YtebiefhfhjgmaaaDoor
namespace Rows

/-- THE TIED CARD OF 'laws.FnCodeNames'. -/
def fnCodeNamesCard : Claim7 := { stood := { row := fnCodeNamesRow, standIns := [], harness := (true, "33c624b93f9b768f720eef7142da34c4157bfee470f90ba4a579aa51de95882b"), looks := false }, kinds := [], alts := [], laidByText := true, laidKinds := [.data, .data, .data], laidTests := true, laidLooks := .later }
def FnCodeNamesCardSaid : Prop := Claim7.holds Tryd.pinned (.plain (OpenSpec.ofChange fnCodeNamesSpec)) fnCodeNamesCard

/-- THE TIED CARD OF 'laws.FnExactFormatCode'. -/
def fnExactFormatCodeCard : Claim7 := { stood := { row := fnExactFormatCodeRow, standIns := [], harness := (true, "33c624b93f9b768f720eef7142da34c4157bfee470f90ba4a579aa51de95882b"), looks := false }, kinds := [], alts := [], laidByText := true, laidKinds := [.data, .data, .data], laidTests := true, laidLooks := .later }
def FnExactFormatCodeCardSaid : Prop := Claim7.holds Tryd.pinned (.plain (OpenSpec.ofChange fnExactFormatCodeSpec)) fnExactFormatCodeCard

/-- THE TIED CARD OF 'laws.FnExactFormatSpan'. -/
def fnExactFormatSpanCard : Claim7 := { stood := { row := fnExactFormatSpanRow, standIns := [], harness := (true, "33c624b93f9b768f720eef7142da34c4157bfee470f90ba4a579aa51de95882b"), looks := false }, kinds := [], alts := [], laidByText := true, laidKinds := [.data, .data, .data], laidTests := true, laidLooks := .later }
def FnExactFormatSpanCardSaid : Prop := Claim7.holds Tryd.pinned (.plain (OpenSpec.ofChange fnExactFormatSpanSpec)) fnExactFormatSpanCard

/-- THE TIED CARD OF 'laws.FnExactFormatAccount'. -/
def fnExactFormatAccountCard : Claim7 := { stood := { row := fnExactFormatAccountRow, standIns := [], harness := (true, "33c624b93f9b768f720eef7142da34c4157bfee470f90ba4a579aa51de95882b"), looks := false }, kinds := [], alts := [], laidByText := true, laidKinds := [.data, .data, .data], laidTests := true, laidLooks := .later }
def FnExactFormatAccountCardSaid : Prop := Claim7.holds Tryd.pinned (.plain (OpenSpec.ofChange fnExactFormatAccountSpec)) fnExactFormatAccountCard

/-- THE TIED CARD OF 'laws.FnExactFormatAct'. -/
def fnExactFormatActCard : Claim7 := { stood := { row := fnExactFormatActRow, standIns := [], harness := (true, "33c624b93f9b768f720eef7142da34c4157bfee470f90ba4a579aa51de95882b"), looks := false }, kinds := [], alts := [], laidByText := true, laidKinds := [.data, .data, .data], laidTests := true, laidLooks := .later }
def FnExactFormatActCardSaid : Prop := Claim7.holds Tryd.pinned (.plain (OpenSpec.ofChange fnExactFormatActSpec)) fnExactFormatActCard

/-- THE TIED CARD OF 'laws.FnExactJournalAdd'. -/
def fnExactJournalAddCard : Claim7 := { stood := { row := fnExactJournalAddRow, standIns := [], harness := (true, "33c624b93f9b768f720eef7142da34c4157bfee470f90ba4a579aa51de95882b"), looks := false }, kinds := [], alts := [], laidByText := true, laidKinds := [.data, .data, .data], laidTests := true, laidLooks := .later }
def FnExactJournalAddCardSaid : Prop := Claim7.holds Tryd.pinned (.plain (OpenSpec.ofChange fnExactJournalAddSpec)) fnExactJournalAddCard

/-- THE TIED CARD OF 'laws.FnExactScriptText'. -/
def fnExactScriptTextCard : Claim7 := { stood := { row := fnExactScriptTextRow, standIns := [], harness := (true, "33c624b93f9b768f720eef7142da34c4157bfee470f90ba4a579aa51de95882b"), looks := false }, kinds := [], alts := [], laidByText := true, laidKinds := [.data, .data, .data], laidTests := true, laidLooks := .later }
def FnExactScriptTextCardSaid : Prop := Claim7.holds Tryd.pinned (.plain (OpenSpec.ofChange fnExactScriptTextSpec)) fnExactScriptTextCard

/-- THE TIED CARD OF 'laws.FnExactParseScript'. -/
def fnExactParseScriptCard : Claim7 := { stood := { row := fnExactParseScriptRow, standIns := [], harness := (true, "33c624b93f9b768f720eef7142da34c4157bfee470f90ba4a579aa51de95882b"), looks := false }, kinds := [], alts := [], laidByText := true, laidKinds := [.data, .pinned], laidTests := true, laidLooks := .later }
def FnExactParseScriptCardSaid : Prop := Claim7.holds Tryd.pinned (.plain (OpenSpec.ofChange fnExactParseScriptSpec)) fnExactParseScriptCard

/-- THE TIED CARD OF 'laws.FnActs'. -/
def fnActsCard : Claim7 := { stood := { row := fnActsRow, standIns := [], harness := (true, "33c624b93f9b768f720eef7142da34c4157bfee470f90ba4a579aa51de95882b"), looks := false }, kinds := [], alts := [], laidByText := true, laidKinds := [.data, .data, .data], laidTests := true, laidLooks := .later }
def FnActsCardSaid : Prop := Claim7.holds Tryd.pinned (.plain (OpenSpec.ofChange fnActsSpec)) fnActsCard

/-- THE TIED CARD OF 'laws.FnTorn'. -/
def fnTornCard : Claim7 := { stood := { row := fnTornRow, standIns := [], harness := (true, "33c624b93f9b768f720eef7142da34c4157bfee470f90ba4a579aa51de95882b"), looks := false }, kinds := [], alts := [], laidByText := true, laidKinds := [.data, .data, .data], laidTests := true, laidLooks := .later }
def FnTornCardSaid : Prop := Claim7.holds Tryd.pinned (.plain (OpenSpec.ofChange fnTornSpec)) fnTornCard

/-- THE TIED CARD OF 'laws.FnOneByte'. -/
def fnOneByteCard : Claim7 := { stood := { row := fnOneByteRow, standIns := [], harness := (true, "33c624b93f9b768f720eef7142da34c4157bfee470f90ba4a579aa51de95882b"), looks := false }, kinds := [], alts := [], laidByText := true, laidKinds := [.data, .data, .data], laidTests := true, laidLooks := .later }
def FnOneByteCardSaid : Prop := Claim7.holds Tryd.pinned (.plain (OpenSpec.ofChange fnOneByteSpec)) fnOneByteCard

/-- THE TIED CARD OF 'laws.FnScripts'. -/
def fnScriptsCard : Claim7 := { stood := { row := fnScriptsRow, standIns := [], harness := (true, "33c624b93f9b768f720eef7142da34c4157bfee470f90ba4a579aa51de95882b"), looks := false }, kinds := [], alts := [], laidByText := true, laidKinds := [.data, .data, .data, .data, .pinned], laidTests := true, laidLooks := .later }
def FnScriptsCardSaid : Prop := Claim7.holds Tryd.pinned (.plain (OpenSpec.ofChange fnScriptsSpec)) fnScriptsCard

/-- THE TIED CARD OF 'laws.FnExactJournalRead'. -/
def fnExactJournalReadCard : Claim7 := { stood := { row := fnExactJournalReadRow, standIns := [], harness := (true, "33c624b93f9b768f720eef7142da34c4157bfee470f90ba4a579aa51de95882b"), looks := false }, kinds := [], alts := [], laidByText := true, laidKinds := [.data, .data, .data], laidTests := true, laidLooks := .later }
def FnExactJournalReadCardSaid : Prop := Claim7.holds Tryd.pinned (.plain (OpenSpec.ofChange fnExactJournalReadSpec)) fnExactJournalReadCard

/-- THE SECOND FORM's CARD OF 'laws.FnCodeNames'. -/
def fnCodeNamesUptoCard : Claim7 := { stood := { row := fnCodeNamesUptoRow, standIns := [], harness := (true, "33c624b93f9b768f720eef7142da34c4157bfee470f90ba4a579aa51de95882b"), looks := false }, kinds := [], alts := [], laidByText := true, laidKinds := [.data, .data, .data], laidTests := true, laidLooks := .later }
def FnCodeNamesUptoCardSaid : Prop := Claim7.holds Tryd.pinned (.plain (OpenSpec.upto fnCodeNamesSpec)) fnCodeNamesUptoCard

/-- THE SECOND FORM's CARD OF 'laws.FnExactFormatCode'. -/
def fnExactFormatCodeUptoCard : Claim7 := { stood := { row := fnExactFormatCodeUptoRow, standIns := [], harness := (true, "33c624b93f9b768f720eef7142da34c4157bfee470f90ba4a579aa51de95882b"), looks := false }, kinds := [], alts := [], laidByText := true, laidKinds := [.data, .data, .data], laidTests := true, laidLooks := .later }
def FnExactFormatCodeUptoCardSaid : Prop := Claim7.holds Tryd.pinned (.plain (OpenSpec.upto fnExactFormatCodeSpec)) fnExactFormatCodeUptoCard

/-- THE SECOND FORM's CARD OF 'laws.FnExactFormatSpan'. -/
def fnExactFormatSpanUptoCard : Claim7 := { stood := { row := fnExactFormatSpanUptoRow, standIns := [], harness := (true, "33c624b93f9b768f720eef7142da34c4157bfee470f90ba4a579aa51de95882b"), looks := false }, kinds := [], alts := [], laidByText := true, laidKinds := [.data, .data, .data], laidTests := true, laidLooks := .later }
def FnExactFormatSpanUptoCardSaid : Prop := Claim7.holds Tryd.pinned (.plain (OpenSpec.upto fnExactFormatSpanSpec)) fnExactFormatSpanUptoCard

/-- THE SECOND FORM's CARD OF 'laws.FnExactFormatAccount'. -/
def fnExactFormatAccountUptoCard : Claim7 := { stood := { row := fnExactFormatAccountUptoRow, standIns := [], harness := (true, "33c624b93f9b768f720eef7142da34c4157bfee470f90ba4a579aa51de95882b"), looks := false }, kinds := [], alts := [], laidByText := true, laidKinds := [.data, .data, .data], laidTests := true, laidLooks := .later }
def FnExactFormatAccountUptoCardSaid : Prop := Claim7.holds Tryd.pinned (.plain (OpenSpec.upto fnExactFormatAccountSpec)) fnExactFormatAccountUptoCard

/-- THE SECOND FORM's CARD OF 'laws.FnExactFormatAct'. -/
def fnExactFormatActUptoCard : Claim7 := { stood := { row := fnExactFormatActUptoRow, standIns := [], harness := (true, "33c624b93f9b768f720eef7142da34c4157bfee470f90ba4a579aa51de95882b"), looks := false }, kinds := [], alts := [], laidByText := true, laidKinds := [.data, .data, .data], laidTests := true, laidLooks := .later }
def FnExactFormatActUptoCardSaid : Prop := Claim7.holds Tryd.pinned (.plain (OpenSpec.upto fnExactFormatActSpec)) fnExactFormatActUptoCard

/-- THE SECOND FORM's CARD OF 'laws.FnExactJournalAdd'. -/
def fnExactJournalAddUptoCard : Claim7 := { stood := { row := fnExactJournalAddUptoRow, standIns := [], harness := (true, "33c624b93f9b768f720eef7142da34c4157bfee470f90ba4a579aa51de95882b"), looks := false }, kinds := [], alts := [], laidByText := true, laidKinds := [.data, .data, .data], laidTests := true, laidLooks := .later }
def FnExactJournalAddUptoCardSaid : Prop := Claim7.holds Tryd.pinned (.plain (OpenSpec.upto fnExactJournalAddSpec)) fnExactJournalAddUptoCard

/-- THE SECOND FORM's CARD OF 'laws.FnExactScriptText'. -/
def fnExactScriptTextUptoCard : Claim7 := { stood := { row := fnExactScriptTextUptoRow, standIns := [], harness := (true, "33c624b93f9b768f720eef7142da34c4157bfee470f90ba4a579aa51de95882b"), looks := false }, kinds := [], alts := [], laidByText := true, laidKinds := [.data, .data, .data], laidTests := true, laidLooks := .later }
def FnExactScriptTextUptoCardSaid : Prop := Claim7.holds Tryd.pinned (.plain (OpenSpec.upto fnExactScriptTextSpec)) fnExactScriptTextUptoCard

/-- THE SECOND FORM's CARD OF 'laws.FnExactParseScript'. -/
def fnExactParseScriptUptoCard : Claim7 := { stood := { row := fnExactParseScriptUptoRow, standIns := [], harness := (true, "33c624b93f9b768f720eef7142da34c4157bfee470f90ba4a579aa51de95882b"), looks := false }, kinds := [], alts := [], laidByText := true, laidKinds := [.data, .pinned], laidTests := true, laidLooks := .later }
def FnExactParseScriptUptoCardSaid : Prop := Claim7.holds Tryd.pinned (.plain (OpenSpec.upto fnExactParseScriptSpec)) fnExactParseScriptUptoCard

/-- THE SECOND FORM's CARD OF 'laws.FnActs'. -/
def fnActsUptoCard : Claim7 := { stood := { row := fnActsUptoRow, standIns := [], harness := (true, "33c624b93f9b768f720eef7142da34c4157bfee470f90ba4a579aa51de95882b"), looks := false }, kinds := [], alts := [], laidByText := true, laidKinds := [.data, .data, .data], laidTests := true, laidLooks := .later }
def FnActsUptoCardSaid : Prop := Claim7.holds Tryd.pinned (.plain (OpenSpec.upto fnActsSpec)) fnActsUptoCard

/-- THE SECOND FORM's CARD OF 'laws.FnTorn'. -/
def fnTornUptoCard : Claim7 := { stood := { row := fnTornUptoRow, standIns := [], harness := (true, "33c624b93f9b768f720eef7142da34c4157bfee470f90ba4a579aa51de95882b"), looks := false }, kinds := [], alts := [], laidByText := true, laidKinds := [.data, .data, .data], laidTests := true, laidLooks := .later }
def FnTornUptoCardSaid : Prop := Claim7.holds Tryd.pinned (.plain (OpenSpec.upto fnTornSpec)) fnTornUptoCard

/-- THE SECOND FORM's CARD OF 'laws.FnOneByte'. -/
def fnOneByteUptoCard : Claim7 := { stood := { row := fnOneByteUptoRow, standIns := [], harness := (true, "33c624b93f9b768f720eef7142da34c4157bfee470f90ba4a579aa51de95882b"), looks := false }, kinds := [], alts := [], laidByText := true, laidKinds := [.data, .data, .data], laidTests := true, laidLooks := .later }
def FnOneByteUptoCardSaid : Prop := Claim7.holds Tryd.pinned (.plain (OpenSpec.upto fnOneByteSpec)) fnOneByteUptoCard

/-- THE SECOND FORM's CARD OF 'laws.FnScripts'. -/
def fnScriptsUptoCard : Claim7 := { stood := { row := fnScriptsUptoRow, standIns := [], harness := (true, "33c624b93f9b768f720eef7142da34c4157bfee470f90ba4a579aa51de95882b"), looks := false }, kinds := [], alts := [], laidByText := true, laidKinds := [.data, .data, .data, .data, .pinned], laidTests := true, laidLooks := .later }
def FnScriptsUptoCardSaid : Prop := Claim7.holds Tryd.pinned (.plain (OpenSpec.upto fnScriptsSpec)) fnScriptsUptoCard

/-- THE SECOND FORM's CARD OF 'laws.FnExactJournalRead'. -/
def fnExactJournalReadUptoCard : Claim7 := { stood := { row := fnExactJournalReadUptoRow, standIns := [], harness := (true, "33c624b93f9b768f720eef7142da34c4157bfee470f90ba4a579aa51de95882b"), looks := false }, kinds := [], alts := [], laidByText := true, laidKinds := [.data, .data, .data], laidTests := true, laidLooks := .later }
def FnExactJournalReadUptoCardSaid : Prop := Claim7.holds Tryd.pinned (.plain (OpenSpec.upto fnExactJournalReadSpec)) fnExactJournalReadUptoCard
end Rows
end Go.Proofs.YtebiefhfhjgmaaaDoor
