/-
  DERIVED. GIVEN WITH THE SEED: THE CARDS: each row of YtfljnigbfacmjaaGreatDoorRows.lean that lists a variable, with what it lists TIED to the program's text (the seventh form; the later family's looks); each row that meets fmt, with fmt's text TOLD by the authors' own Lean function (tested against real Go, not proved from fmt's source: count such statements apart). THE CARD IS WHAT COUNTS. Prove the row's statement (the work); the ties are given (YtfljnigbfacmjaaGreatDoorTie.lean); close each card by the builder's one call (the guide's Derived/Test/ToyasCard.lean, 'card_holds'). Laid BY PROGRAM, IN A SANDBOX (cutbox-door.mjs). By AI agents, Wed Nov 11 2026. No macro, syntax, notation, axiom, sorry.
-/
import Derived.Test.YtfljnigbfacmjaaGreatDoorRows
import GoSem.ClaimSeven
namespace Go.Proofs.YtfljnigbfacmjaaGreatDoor
namespace Rows

/-- THE TIED CARD OF 'provisionlaw10.TypesFits'. -/
def typesFitsCard : Claim7 := { stood := { row := typesFitsRow, standIns := [], harness := (true, "a2558cd7f107caa6a7ef26311f05b004a652f49543c2fdce52d7c59f0904977e"), looks := false }, kinds := [], alts := [], laidByText := true, laidKinds := [.data, .pinned], laidTests := true, laidLooks := .later }
def TypesFitsCardSaid : Prop := Claim7.holds Tryz.pinned (.plain (OpenSpec.ofChange typesFitsSpec)) typesFitsCard

/-- THE TIED CARD OF 'provisionlaw10.TypesOf'. -/
def typesOfCard : Claim7 := { stood := { row := typesOfRow, standIns := [], harness := (true, "a2558cd7f107caa6a7ef26311f05b004a652f49543c2fdce52d7c59f0904977e"), looks := false }, kinds := [], alts := [], laidByText := true, laidKinds := [.data, .pinned], laidTests := true, laidLooks := .later }
def TypesOfCardSaid : Prop := Claim7.holds Tryz.pinned (.plain (OpenSpec.ofChange typesOfSpec)) typesOfCard

/-- THE TIED CARD OF 'provisionlaw10.TypesOrder'. -/
def typesOrderCard : Claim7 := { stood := { row := typesOrderRow, standIns := [], harness := (true, "a2558cd7f107caa6a7ef26311f05b004a652f49543c2fdce52d7c59f0904977e"), looks := false }, kinds := [], alts := [], laidByText := true, laidKinds := [.data, .pinned], laidTests := true, laidLooks := .later }
def TypesOrderCardSaid : Prop := Claim7.holds Tryz.pinned (.plain (OpenSpec.ofChange typesOrderSpec)) typesOrderCard

/-- THE SECOND FORM's CARD OF 'provisionlaw10.TypesFits'. -/
def typesFitsUptoCard : Claim7 := { stood := { row := typesFitsUptoRow, standIns := [], harness := (true, "a2558cd7f107caa6a7ef26311f05b004a652f49543c2fdce52d7c59f0904977e"), looks := false }, kinds := [], alts := [], laidByText := true, laidKinds := [.data, .pinned], laidTests := true, laidLooks := .later }
def TypesFitsUptoCardSaid : Prop := Claim7.holds Tryz.pinned (.plain (OpenSpec.upto typesFitsSpec)) typesFitsUptoCard

/-- THE SECOND FORM's CARD OF 'provisionlaw10.TypesOf'. -/
def typesOfUptoCard : Claim7 := { stood := { row := typesOfUptoRow, standIns := [], harness := (true, "a2558cd7f107caa6a7ef26311f05b004a652f49543c2fdce52d7c59f0904977e"), looks := false }, kinds := [], alts := [], laidByText := true, laidKinds := [.data, .pinned], laidTests := true, laidLooks := .later }
def TypesOfUptoCardSaid : Prop := Claim7.holds Tryz.pinned (.plain (OpenSpec.upto typesOfSpec)) typesOfUptoCard

/-- THE SECOND FORM's CARD OF 'provisionlaw10.TypesOrder'. -/
def typesOrderUptoCard : Claim7 := { stood := { row := typesOrderUptoRow, standIns := [], harness := (true, "a2558cd7f107caa6a7ef26311f05b004a652f49543c2fdce52d7c59f0904977e"), looks := false }, kinds := [], alts := [], laidByText := true, laidKinds := [.data, .pinned], laidTests := true, laidLooks := .later }
def TypesOrderUptoCardSaid : Prop := Claim7.holds Tryz.pinned (.plain (OpenSpec.upto typesOrderSpec)) typesOrderUptoCard
end Rows
end Go.Proofs.YtfljnigbfacmjaaGreatDoor
