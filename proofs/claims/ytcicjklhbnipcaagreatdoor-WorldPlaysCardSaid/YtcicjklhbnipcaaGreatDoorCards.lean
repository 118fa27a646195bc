/-
  DERIVED. GIVEN WITH THE SEED: THE CARDS: each row of YtcicjklhbnipcaaGreatDoorRows.lean that lists a variable, with what it lists TIED to the program's text (the seventh form; the later family's looks); each row that meets fmt, with fmt's text TOLD by the authors' own Lean function (tested against real Go, not proved from fmt's source: count such statements apart). THE CARD IS WHAT COUNTS. Prove the row's statement (the work); the ties are given (YtcicjklhbnipcaaGreatDoorTie.lean); close each card by the builder's one call (the guide's Derived/Test/ToyasCard.lean, 'card_holds'). Laid BY PROGRAM, IN A SANDBOX (cutbox-door.mjs). By AI agents, Wed Nov 11 2026. No macro, syntax, notation, axiom, sorry.
-/
import Derived.Test.YtcicjklhbnipcaaGreatDoorRows
import GoSem.ClaimSeven
namespace Go.Proofs.YtcicjklhbnipcaaGreatDoor
namespace Rows

/-- THE TIED CARD OF 'cooperagelaw09.FsHandles'. -/
def fsHandlesCard : Claim7 := { stood := { row := fsHandlesRow, standIns := [], harness := (true, "39cf9b5525745fa49ff0fb3519e6823227be6cedf6e145aea5694d30e32e6f72"), looks := true }, kinds := [], alts := [], laidByText := true, laidKinds := [.data, .pinned], laidTests := true, laidLooks := .later }
def FsHandlesCardSaid : Prop := Claim7.holds Tryz.pinned (.plain (OpenSpec.ofChange fsHandlesSpec)) fsHandlesCard

/-- THE TIED CARD OF 'cooperagelaw09.FsSwaps'. -/
def fsSwapsCard : Claim7 := { stood := { row := fsSwapsRow, standIns := [], harness := (true, "39cf9b5525745fa49ff0fb3519e6823227be6cedf6e145aea5694d30e32e6f72"), looks := true }, kinds := [], alts := [], laidByText := true, laidKinds := [.data, .pinned], laidTests := true, laidLooks := .later }
def FsSwapsCardSaid : Prop := Claim7.holds Tryz.pinned (.plain (OpenSpec.ofChange fsSwapsSpec)) fsSwapsCard

/-- THE TIED CARD OF 'cooperagelaw09.FsNobody'. -/
def fsNobodyCard : Claim7 := { stood := { row := fsNobodyRow, standIns := [], harness := (true, "39cf9b5525745fa49ff0fb3519e6823227be6cedf6e145aea5694d30e32e6f72"), looks := true }, kinds := [], alts := [], laidByText := true, laidKinds := [.data, .pinned], laidTests := true, laidLooks := .later }
def FsNobodyCardSaid : Prop := Claim7.holds Tryz.pinned (.plain (OpenSpec.ofChange fsNobodySpec)) fsNobodyCard

/-- THE TIED CARD OF 'cooperagelaw10.OplogSure'. -/
def oplogSureCard : Claim7 := { stood := { row := oplogSureRow, standIns := [], harness := (true, "39cf9b5525745fa49ff0fb3519e6823227be6cedf6e145aea5694d30e32e6f72"), looks := true }, kinds := [], alts := [], laidByText := true, laidKinds := [.data, .pinned], laidTests := true, laidLooks := .later }
def OplogSureCardSaid : Prop := Claim7.holds Tryz.pinned (.plain (OpenSpec.ofChange oplogSureSpec)) oplogSureCard

/-- THE TIED CARD OF 'cooperagelaw10.OplogMore'. -/
def oplogMoreCard : Claim7 := { stood := { row := oplogMoreRow, standIns := [], harness := (true, "39cf9b5525745fa49ff0fb3519e6823227be6cedf6e145aea5694d30e32e6f72"), looks := true }, kinds := [], alts := [], laidByText := true, laidKinds := [.data, .pinned], laidTests := true, laidLooks := .later }
def OplogMoreCardSaid : Prop := Claim7.holds Tryz.pinned (.plain (OpenSpec.ofChange oplogMoreSpec)) oplogMoreCard

/-- THE TIED CARD OF 'cooperagelaw10.OplogPlays'. -/
def oplogPlaysCard : Claim7 := { stood := { row := oplogPlaysRow, standIns := [], harness := (true, "39cf9b5525745fa49ff0fb3519e6823227be6cedf6e145aea5694d30e32e6f72"), looks := true }, kinds := [], alts := [], laidByText := true, laidKinds := [.data, .pinned], laidTests := true, laidLooks := .later }
def OplogPlaysCardSaid : Prop := Claim7.holds Tryz.pinned (.plain (OpenSpec.ofChange oplogPlaysSpec)) oplogPlaysCard

/-- THE TIED CARD OF 'cooperagelaw10.OplogNobody'. -/
def oplogNobodyCard : Claim7 := { stood := { row := oplogNobodyRow, standIns := [], harness := (true, "39cf9b5525745fa49ff0fb3519e6823227be6cedf6e145aea5694d30e32e6f72"), looks := true }, kinds := [], alts := [], laidByText := true, laidKinds := [.data, .pinned], laidTests := true, laidLooks := .later }
def OplogNobodyCardSaid : Prop := Claim7.holds Tryz.pinned (.plain (OpenSpec.ofChange oplogNobodySpec)) oplogNobodyCard

/-- THE TIED CARD OF 'cooperagelaw25.WorldDead'. -/
def worldDeadCard : Claim7 := { stood := { row := worldDeadRow, standIns := [], harness := (true, "39cf9b5525745fa49ff0fb3519e6823227be6cedf6e145aea5694d30e32e6f72"), looks := true }, kinds := [], alts := [], laidByText := true, laidKinds := [.data, .pinned], laidTests := true, laidLooks := .later }
def WorldDeadCardSaid : Prop := Claim7.holds Tryz.pinned (.plain (OpenSpec.ofChange worldDeadSpec)) worldDeadCard

/-- THE TIED CARD OF 'cooperagelaw25.WorldPlays'. -/
def worldPlaysCard : Claim7 := { stood := { row := worldPlaysRow, standIns := [], harness := (true, "39cf9b5525745fa49ff0fb3519e6823227be6cedf6e145aea5694d30e32e6f72"), looks := true }, kinds := [], alts := [], laidByText := true, laidKinds := [.data, .pinned], laidTests := true, laidLooks := .later }
def WorldPlaysCardSaid : Prop := Claim7.holds Tryz.pinned (.plain (OpenSpec.ofChange worldPlaysSpec)) worldPlaysCard

/-- THE TIED CARD OF 'cooperagelaw25.WorldNobody'. -/
def worldNobodyCard : Claim7 := { stood := { row := worldNobodyRow, standIns := [], harness := (true, "39cf9b5525745fa49ff0fb3519e6823227be6cedf6e145aea5694d30e32e6f72"), looks := true }, kinds := [], alts := [], laidByText := true, laidKinds := [.data, .pinned], laidTests := true, laidLooks := .later }
def WorldNobodyCardSaid : Prop := Claim7.holds Tryz.pinned (.plain (OpenSpec.ofChange worldNobodySpec)) worldNobodyCard

/-- THE SECOND FORM's CARD OF 'cooperagelaw09.FsHandles'. -/
def fsHandlesUptoCard : Claim7 := { stood := { row := fsHandlesUptoRow, standIns := [], harness := (true, "39cf9b5525745fa49ff0fb3519e6823227be6cedf6e145aea5694d30e32e6f72"), looks := true }, kinds := [], alts := [], laidByText := true, laidKinds := [.data, .pinned], laidTests := true, laidLooks := .later }
def FsHandlesUptoCardSaid : Prop := Claim7.holds Tryz.pinned (.plain (OpenSpec.upto fsHandlesSpec)) fsHandlesUptoCard

/-- THE SECOND FORM's CARD OF 'cooperagelaw09.FsSwaps'. -/
def fsSwapsUptoCard : Claim7 := { stood := { row := fsSwapsUptoRow, standIns := [], harness := (true, "39cf9b5525745fa49ff0fb3519e6823227be6cedf6e145aea5694d30e32e6f72"), looks := true }, kinds := [], alts := [], laidByText := true, laidKinds := [.data, .pinned], laidTests := true, laidLooks := .later }
def FsSwapsUptoCardSaid : Prop := Claim7.holds Tryz.pinned (.plain (OpenSpec.upto fsSwapsSpec)) fsSwapsUptoCard

/-- THE SECOND FORM's CARD OF 'cooperagelaw09.FsNobody'. -/
def fsNobodyUptoCard : Claim7 := { stood := { row := fsNobodyUptoRow, standIns := [], harness := (true, "39cf9b5525745fa49ff0fb3519e6823227be6cedf6e145aea5694d30e32e6f72"), looks := true }, kinds := [], alts := [], laidByText := true, laidKinds := [.data, .pinned], laidTests := true, laidLooks := .later }
def FsNobodyUptoCardSaid : Prop := Claim7.holds Tryz.pinned (.plain (OpenSpec.upto fsNobodySpec)) fsNobodyUptoCard

/-- THE SECOND FORM's CARD OF 'cooperagelaw10.OplogSure'. -/
def oplogSureUptoCard : Claim7 := { stood := { row := oplogSureUptoRow, standIns := [], harness := (true, "39cf9b5525745fa49ff0fb3519e6823227be6cedf6e145aea5694d30e32e6f72"), looks := true }, kinds := [], alts := [], laidByText := true, laidKinds := [.data, .pinned], laidTests := true, laidLooks := .later }
def OplogSureUptoCardSaid : Prop := Claim7.holds Tryz.pinned (.plain (OpenSpec.upto oplogSureSpec)) oplogSureUptoCard

/-- THE SECOND FORM's CARD OF 'cooperagelaw10.OplogMore'. -/
def oplogMoreUptoCard : Claim7 := { stood := { row := oplogMoreUptoRow, standIns := [], harness := (true, "39cf9b5525745fa49ff0fb3519e6823227be6cedf6e145aea5694d30e32e6f72"), looks := true }, kinds := [], alts := [], laidByText := true, laidKinds := [.data, .pinned], laidTests := true, laidLooks := .later }
def OplogMoreUptoCardSaid : Prop := Claim7.holds Tryz.pinned (.plain (OpenSpec.upto oplogMoreSpec)) oplogMoreUptoCard

/-- THE SECOND FORM's CARD OF 'cooperagelaw10.OplogPlays'. -/
def oplogPlaysUptoCard : Claim7 := { stood := { row := oplogPlaysUptoRow, standIns := [], harness := (true, "39cf9b5525745fa49ff0fb3519e6823227be6cedf6e145aea5694d30e32e6f72"), looks := true }, kinds := [], alts := [], laidByText := true, laidKinds := [.data, .pinned], laidTests := true, laidLooks := .later }
def OplogPlaysUptoCardSaid : Prop := Claim7.holds Tryz.pinned (.plain (OpenSpec.upto oplogPlaysSpec)) oplogPlaysUptoCard

/-- THE SECOND FORM's CARD OF 'cooperagelaw10.OplogNobody'. -/
def oplogNobodyUptoCard : Claim7 := { stood := { row := oplogNobodyUptoRow, standIns := [], harness := (true, "39cf9b5525745fa49ff0fb3519e6823227be6cedf6e145aea5694d30e32e6f72"), looks := true }, kinds := [], alts := [], laidByText := true, laidKinds := [.data, .pinned], laidTests := true, laidLooks := .later }
def OplogNobodyUptoCardSaid : Prop := Claim7.holds Tryz.pinned (.plain (OpenSpec.upto oplogNobodySpec)) oplogNobodyUptoCard

/-- THE SECOND FORM's CARD OF 'cooperagelaw25.WorldDead'. -/
def worldDeadUptoCard : Claim7 := { stood := { row := worldDeadUptoRow, standIns := [], harness := (true, "39cf9b5525745fa49ff0fb3519e6823227be6cedf6e145aea5694d30e32e6f72"), looks := true }, kinds := [], alts := [], laidByText := true, laidKinds := [.data, .pinned], laidTests := true, laidLooks := .later }
def WorldDeadUptoCardSaid : Prop := Claim7.holds Tryz.pinned (.plain (OpenSpec.upto worldDeadSpec)) worldDeadUptoCard

/-- THE SECOND FORM's CARD OF 'cooperagelaw25.WorldPlays'. -/
def worldPlaysUptoCard : Claim7 := { stood := { row := worldPlaysUptoRow, standIns := [], harness := (true, "39cf9b5525745fa49ff0fb3519e6823227be6cedf6e145aea5694d30e32e6f72"), looks := true }, kinds := [], alts := [], laidByText := true, laidKinds := [.data, .pinned], laidTests := true, laidLooks := .later }
def WorldPlaysUptoCardSaid : Prop := Claim7.holds Tryz.pinned (.plain (OpenSpec.upto worldPlaysSpec)) worldPlaysUptoCard

/-- THE SECOND FORM's CARD OF 'cooperagelaw25.WorldNobody'. -/
def worldNobodyUptoCard : Claim7 := { stood := { row := worldNobodyUptoRow, standIns := [], harness := (true, "39cf9b5525745fa49ff0fb3519e6823227be6cedf6e145aea5694d30e32e6f72"), looks := true }, kinds := [], alts := [], laidByText := true, laidKinds := [.data, .pinned], laidTests := true, laidLooks := .later }
def WorldNobodyUptoCardSaid : Prop := Claim7.holds Tryz.pinned (.plain (OpenSpec.upto worldNobodySpec)) worldNobodyUptoCard
end Rows
end Go.Proofs.YtcicjklhbnipcaaGreatDoor
