/-
  DERIVED. GIVEN WITH THE SEED: THE CARDS: each row of YtjldgieffkemlaaGreatDoorRows.lean that lists a variable, with what it lists TIED to the program's text (the seventh form; the later family's looks); each row that meets fmt, with fmt's text TOLD by the authors' own Lean function (tested against real Go, not proved from fmt's source: count such statements apart). THE CARD IS WHAT COUNTS. Prove the row's statement (the work); the ties are given (YtjldgieffkemlaaGreatDoorTie.lean); close each card by the builder's one call (the guide's Derived/Test/ToyasCard.lean, 'card_holds'). Laid BY PROGRAM, IN A SANDBOX (cutbox-door.mjs). By AI agents, Wed Nov 11 2026. No macro, syntax, notation, axiom, sorry.
-/
import Derived.Test.YtjldgieffkemlaaGreatDoorRows
import GoSem.ClaimSeven
namespace Go.Proofs.YtjldgieffkemlaaGreatDoor
namespace Rows

/-- THE TIED CARD OF 'cooperagelaw29.IntentNames'. -/
def intentNamesCard : Claim7 := { stood := { row := intentNamesRow, standIns := [], harness := (true, "4ef1a32feebe364c2ee3c99551ed6921a2ab8f08c0d7244616fe572a423e8932"), looks := true }, kinds := [], alts := [], laidByText := true, laidKinds := [.data, .data, .data, .data, .sentinel, .sentinel, .pinned], laidTests := true, laidLooks := .later }
def IntentNamesCardSaid : Prop := Claim7.holds Tryz.pinned (.plain (OpenSpec.ofChange intentNamesSpec)) intentNamesCard

/-- THE TIED CARD OF 'cooperagelaw31.BaseNames'. -/
def baseNamesCard : Claim7 := { stood := { row := baseNamesRow, standIns := [], harness := (true, "4ef1a32feebe364c2ee3c99551ed6921a2ab8f08c0d7244616fe572a423e8932"), looks := true }, kinds := [], alts := [], laidByText := true, laidKinds := [.data, .data, .data, .data, .sentinel, .sentinel, .pinned], laidTests := true, laidLooks := .later }
def BaseNamesCardSaid : Prop := Claim7.holds Tryz.pinned (.plain (OpenSpec.ofChange baseNamesSpec)) baseNamesCard

/-- THE SECOND FORM's CARD OF 'cooperagelaw29.IntentNames'. -/
def intentNamesUptoCard : Claim7 := { stood := { row := intentNamesUptoRow, standIns := [], harness := (true, "4ef1a32feebe364c2ee3c99551ed6921a2ab8f08c0d7244616fe572a423e8932"), looks := true }, kinds := [], alts := [], laidByText := true, laidKinds := [.data, .data, .data, .data, .sentinel, .sentinel, .pinned], laidTests := true, laidLooks := .later }
def IntentNamesUptoCardSaid : Prop := Claim7.holds Tryz.pinned (.plain (OpenSpec.upto intentNamesSpec)) intentNamesUptoCard

/-- THE SECOND FORM's CARD OF 'cooperagelaw31.BaseNames'. -/
def baseNamesUptoCard : Claim7 := { stood := { row := baseNamesUptoRow, standIns := [], harness := (true, "4ef1a32feebe364c2ee3c99551ed6921a2ab8f08c0d7244616fe572a423e8932"), looks := true }, kinds := [], alts := [], laidByText := true, laidKinds := [.data, .data, .data, .data, .sentinel, .sentinel, .pinned], laidTests := true, laidLooks := .later }
def BaseNamesUptoCardSaid : Prop := Claim7.holds Tryz.pinned (.plain (OpenSpec.upto baseNamesSpec)) baseNamesUptoCard
end Rows
end Go.Proofs.YtjldgieffkemlaaGreatDoor
