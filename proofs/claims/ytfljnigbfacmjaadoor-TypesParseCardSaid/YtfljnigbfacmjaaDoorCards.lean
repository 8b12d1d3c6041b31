/-
  DERIVED. GIVEN WITH THE SEED: THE CARDS: each row of YtfljnigbfacmjaaDoorRows.lean that lists a variable, with what it lists TIED to the program's text (the seventh form; the later family's looks); each row that meets fmt, with fmt's text TOLD by the authors' own Lean function (tested against real Go, not proved from fmt's source: count such statements apart). THE CARD IS WHAT COUNTS. Prove the row's statement (the work); the ties are given (YtfljnigbfacmjaaDoorTie.lean); close each card by the builder's one call (the guide's Derived/Test/ToyasCard.lean, 'card_holds'). Laid BY PROGRAM, IN A SANDBOX (cutbox-door.mjs). By AI agents, Wed Nov 11 2026. No macro, syntax, notation, axiom, sorry.
-/
import Derived.Test.YtfljnigbfacmjaaDoorRows
import GoSem.ClaimSeven
namespace Go.Proofs.YtfljnigbfacmjaaDoor
namespace Rows

/-- THE TIED CARD OF 'provisionlaw10.TypesCheck'. -/
def typesCheckCard : Claim7 := { stood := { row := typesCheckRow, standIns := [], harness := (true, "cca550cc2aee7636d33115c2a43e3552850c6857b75130fff42cf876e696bc9f"), looks := false }, kinds := [], alts := [], laidByText := true, laidKinds := [.data, .pinned], laidTests := true, laidLooks := .later }
def TypesCheckCardSaid : Prop := Claim7.holds Tryd.pinned (.plain (OpenSpec.ofChange typesCheckSpec)) typesCheckCard

/-- THE TIED CARD OF 'provisionlaw10.TypesParse'. -/
def typesParseCard : Claim7 := { stood := { row := typesParseRow, standIns := [], harness := (true, "cca550cc2aee7636d33115c2a43e3552850c6857b75130fff42cf876e696bc9f"), looks := false }, kinds := [], alts := [], laidByText := true, laidKinds := [.data, .pinned], laidTests := true, laidLooks := .later }
def TypesParseCardSaid : Prop := Claim7.holds Tryd.pinned (.plain (OpenSpec.ofChange typesParseSpec)) typesParseCard

/-- THE TIED CARD OF 'provisionlaw10.TypesUnify'. -/
def typesUnifyCard : Claim7 := { stood := { row := typesUnifyRow, standIns := [], harness := (true, "cca550cc2aee7636d33115c2a43e3552850c6857b75130fff42cf876e696bc9f"), looks := false }, kinds := [], alts := [], laidByText := true, laidKinds := [.data, .pinned], laidTests := true, laidLooks := .later }
def TypesUnifyCardSaid : Prop := Claim7.holds Tryd.pinned (.plain (OpenSpec.ofChange typesUnifySpec)) typesUnifyCard

/-- THE TIED CARD OF 'provisionlaw10.TypesTexts'. -/
def typesTextsCard : Claim7 := { stood := { row := typesTextsRow, standIns := [], harness := (true, "cca550cc2aee7636d33115c2a43e3552850c6857b75130fff42cf876e696bc9f"), looks := false }, kinds := [], alts := [], laidByText := true, laidKinds := [.data, .pinned], laidTests := true, laidLooks := .later }
def TypesTextsCardSaid : Prop := Claim7.holds Tryd.pinned (.plain (OpenSpec.ofChange typesTextsSpec)) typesTextsCard

/-- THE TIED CARD OF 'provisionlaw10.TypesBack'. -/
def typesBackCard : Claim7 := { stood := { row := typesBackRow, standIns := [], harness := (true, "cca550cc2aee7636d33115c2a43e3552850c6857b75130fff42cf876e696bc9f"), looks := false }, kinds := [], alts := [], laidByText := true, laidKinds := [.data, .pinned], laidTests := true, laidLooks := .later }
def TypesBackCardSaid : Prop := Claim7.holds Tryd.pinned (.plain (OpenSpec.ofChange typesBackSpec)) typesBackCard

/-- THE TIED CARD OF 'provisionlaw10.TypesReads'. -/
def typesReadsCard : Claim7 := { stood := { row := typesReadsRow, standIns := [], harness := (true, "cca550cc2aee7636d33115c2a43e3552850c6857b75130fff42cf876e696bc9f"), looks := false }, kinds := [], alts := [], laidByText := true, laidKinds := [.data, .pinned], laidTests := true, laidLooks := .later }
def TypesReadsCardSaid : Prop := Claim7.holds Tryd.pinned (.plain (OpenSpec.ofChange typesReadsSpec)) typesReadsCard

/-- THE SECOND FORM's CARD OF 'provisionlaw10.TypesCheck'. -/
def typesCheckUptoCard : Claim7 := { stood := { row := typesCheckUptoRow, standIns := [], harness := (true, "cca550cc2aee7636d33115c2a43e3552850c6857b75130fff42cf876e696bc9f"), looks := false }, kinds := [], alts := [], laidByText := true, laidKinds := [.data, .pinned], laidTests := true, laidLooks := .later }
def TypesCheckUptoCardSaid : Prop := Claim7.holds Tryd.pinned (.plain (OpenSpec.upto typesCheckSpec)) typesCheckUptoCard

/-- THE SECOND FORM's CARD OF 'provisionlaw10.TypesParse'. -/
def typesParseUptoCard : Claim7 := { stood := { row := typesParseUptoRow, standIns := [], harness := (true, "cca550cc2aee7636d33115c2a43e3552850c6857b75130fff42cf876e696bc9f"), looks := false }, kinds := [], alts := [], laidByText := true, laidKinds := [.data, .pinned], laidTests := true, laidLooks := .later }
def TypesParseUptoCardSaid : Prop := Claim7.holds Tryd.pinned (.plain (OpenSpec.upto typesParseSpec)) typesParseUptoCard

/-- THE SECOND FORM's CARD OF 'provisionlaw10.TypesUnify'. -/
def typesUnifyUptoCard : Claim7 := { stood := { row := typesUnifyUptoRow, standIns := [], harness := (true, "cca550cc2aee7636d33115c2a43e3552850c6857b75130fff42cf876e696bc9f"), looks := false }, kinds := [], alts := [], laidByText := true, laidKinds := [.data, .pinned], laidTests := true, laidLooks := .later }
def TypesUnifyUptoCardSaid : Prop := Claim7.holds Tryd.pinned (.plain (OpenSpec.upto typesUnifySpec)) typesUnifyUptoCard

/-- THE SECOND FORM's CARD OF 'provisionlaw10.TypesTexts'. -/
def typesTextsUptoCard : Claim7 := { stood := { row := typesTextsUptoRow, standIns := [], harness := (true, "cca550cc2aee7636d33115c2a43e3552850c6857b75130fff42cf876e696bc9f"), looks := false }, kinds := [], alts := [], laidByText := true, laidKinds := [.data, .pinned], laidTests := true, laidLooks := .later }
def TypesTextsUptoCardSaid : Prop := Claim7.holds Tryd.pinned (.plain (OpenSpec.upto typesTextsSpec)) typesTextsUptoCard

/-- THE SECOND FORM's CARD OF 'provisionlaw10.TypesBack'. -/
def typesBackUptoCard : Claim7 := { stood := { row := typesBackUptoRow, standIns := [], harness := (true, "cca550cc2aee7636d33115c2a43e3552850c6857b75130fff42cf876e696bc9f"), looks := false }, kinds := [], alts := [], laidByText := true, laidKinds := [.data, .pinned], laidTests := true, laidLooks := .later }
def TypesBackUptoCardSaid : Prop := Claim7.holds Tryd.pinned (.plain (OpenSpec.upto typesBackSpec)) typesBackUptoCard

/-- THE SECOND FORM's CARD OF 'provisionlaw10.TypesReads'. -/
def typesReadsUptoCard : Claim7 := { stood := { row := typesReadsUptoRow, standIns := [], harness := (true, "cca550cc2aee7636d33115c2a43e3552850c6857b75130fff42cf876e696bc9f"), looks := false }, kinds := [], alts := [], laidByText := true, laidKinds := [.data, .pinned], laidTests := true, laidLooks := .later }
def TypesReadsUptoCardSaid : Prop := Claim7.holds Tryd.pinned (.plain (OpenSpec.upto typesReadsSpec)) typesReadsUptoCard
end Rows
end Go.Proofs.YtfljnigbfacmjaaDoor
