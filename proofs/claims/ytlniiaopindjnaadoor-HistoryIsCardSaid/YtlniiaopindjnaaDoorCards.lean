/-
  DERIVED. GIVEN WITH THE SEED: THE CARDS: each row of YtlniiaopindjnaaDoorRows.lean that lists a variable, with what it lists TIED to the program's text (the seventh form; the later family's looks); each row that meets fmt, with fmt's text TOLD by the authors' own Lean function (tested against real Go, not proved from fmt's source: count such statements apart). THE CARD IS WHAT COUNTS. Prove the row's statement (the work); the ties are given (YtlniiaopindjnaaDoorTie.lean); close each card by the builder's one call (the guide's Derived/Test/ToyasCard.lean, 'card_holds'). Laid BY PROGRAM, IN A SANDBOX (cutbox-door.mjs). By AI agents, Wed Nov 11 2026. No macro, syntax, notation, axiom, sorry.
-/
import Derived.Test.YtlniiaopindjnaaDoorRows
import GoSem.ClaimSeven
namespace Go.Proofs.YtlniiaopindjnaaDoor
namespace Rows

/-- THE TIED CARD OF 'cooperagelaw04.QuoteIs'. -/
def quoteIsCard : Claim7 := { stood := { row := quoteIsRow, standIns := [], harness := (true, "f8ecf173177ae6de777795000fc66d0c15427d1fdfb36d1c4f9f1e9c6910dc92"), looks := false }, kinds := [], alts := [], laidByText := true, laidKinds := [.data, .pinned], laidTests := true, laidLooks := .later }
def QuoteIsCardSaid : Prop := Claim7.holds Tryd.pinned (.plain (OpenSpec.ofChange quoteIsSpec)) quoteIsCard

/-- THE TIED CARD OF 'cooperagelaw04.QuoteReads'. -/
def quoteReadsCard : Claim7 := { stood := { row := quoteReadsRow, standIns := [], harness := (true, "f8ecf173177ae6de777795000fc66d0c15427d1fdfb36d1c4f9f1e9c6910dc92"), looks := false }, kinds := [], alts := [], laidByText := true, laidKinds := [.data, .pinned], laidTests := true, laidLooks := .later }
def QuoteReadsCardSaid : Prop := Claim7.holds Tryd.pinned (.plain (OpenSpec.ofChange quoteReadsSpec)) quoteReadsCard

/-- THE TIED CARD OF 'cooperagelaw04.QuoteBack'. -/
def quoteBackCard : Claim7 := { stood := { row := quoteBackRow, standIns := [], harness := (true, "f8ecf173177ae6de777795000fc66d0c15427d1fdfb36d1c4f9f1e9c6910dc92"), looks := false }, kinds := [], alts := [], laidByText := true, laidKinds := [.data, .pinned], laidTests := true, laidLooks := .later }
def QuoteBackCardSaid : Prop := Claim7.holds Tryd.pinned (.plain (OpenSpec.ofChange quoteBackSpec)) quoteBackCard

/-- THE TIED CARD OF 'cooperagelaw04.QuoteLimit'. -/
def quoteLimitCard : Claim7 := { stood := { row := quoteLimitRow, standIns := [], harness := (true, "f8ecf173177ae6de777795000fc66d0c15427d1fdfb36d1c4f9f1e9c6910dc92"), looks := false }, kinds := [], alts := [], laidByText := true, laidKinds := [.data, .pinned], laidTests := true, laidLooks := .later }
def QuoteLimitCardSaid : Prop := Claim7.holds Tryd.pinned (.plain (OpenSpec.ofChange quoteLimitSpec)) quoteLimitCard

/-- THE TIED CARD OF 'cooperagelaw35.HistoryOrder'. -/
def historyOrderCard : Claim7 := { stood := { row := historyOrderRow, standIns := [], harness := (true, "f8ecf173177ae6de777795000fc66d0c15427d1fdfb36d1c4f9f1e9c6910dc92"), looks := false }, kinds := [], alts := [], laidByText := true, laidKinds := [.data, .data, .data], laidTests := true, laidLooks := .later }
def HistoryOrderCardSaid : Prop := Claim7.holds Tryd.pinned (.plain (OpenSpec.ofChange historyOrderSpec)) historyOrderCard

/-- THE TIED CARD OF 'cooperagelaw35.HistoryIs'. -/
def historyIsCard : Claim7 := { stood := { row := historyIsRow, standIns := [], harness := (true, "f8ecf173177ae6de777795000fc66d0c15427d1fdfb36d1c4f9f1e9c6910dc92"), looks := false }, kinds := [], alts := [], laidByText := true, laidKinds := [.data, .data, .data], laidTests := true, laidLooks := .later }
def HistoryIsCardSaid : Prop := Claim7.holds Tryd.pinned (.plain (OpenSpec.ofChange historyIsSpec)) historyIsCard

/-- THE SECOND FORM's CARD OF 'cooperagelaw04.QuoteIs'. -/
def quoteIsUptoCard : Claim7 := { stood := { row := quoteIsUptoRow, standIns := [], harness := (true, "f8ecf173177ae6de777795000fc66d0c15427d1fdfb36d1c4f9f1e9c6910dc92"), looks := false }, kinds := [], alts := [], laidByText := true, laidKinds := [.data, .pinned], laidTests := true, laidLooks := .later }
def QuoteIsUptoCardSaid : Prop := Claim7.holds Tryd.pinned (.plain (OpenSpec.upto quoteIsSpec)) quoteIsUptoCard

/-- THE SECOND FORM's CARD OF 'cooperagelaw04.QuoteReads'. -/
def quoteReadsUptoCard : Claim7 := { stood := { row := quoteReadsUptoRow, standIns := [], harness := (true, "f8ecf173177ae6de777795000fc66d0c15427d1fdfb36d1c4f9f1e9c6910dc92"), looks := false }, kinds := [], alts := [], laidByText := true, laidKinds := [.data, .pinned], laidTests := true, laidLooks := .later }
def QuoteReadsUptoCardSaid : Prop := Claim7.holds Tryd.pinned (.plain (OpenSpec.upto quoteReadsSpec)) quoteReadsUptoCard

/-- THE SECOND FORM's CARD OF 'cooperagelaw04.QuoteBack'. -/
def quoteBackUptoCard : Claim7 := { stood := { row := quoteBackUptoRow, standIns := [], harness := (true, "f8ecf173177ae6de777795000fc66d0c15427d1fdfb36d1c4f9f1e9c6910dc92"), looks := false }, kinds := [], alts := [], laidByText := true, laidKinds := [.data, .pinned], laidTests := true, laidLooks := .later }
def QuoteBackUptoCardSaid : Prop := Claim7.holds Tryd.pinned (.plain (OpenSpec.upto quoteBackSpec)) quoteBackUptoCard

/-- THE SECOND FORM's CARD OF 'cooperagelaw04.QuoteLimit'. -/
def quoteLimitUptoCard : Claim7 := { stood := { row := quoteLimitUptoRow, standIns := [], harness := (true, "f8ecf173177ae6de777795000fc66d0c15427d1fdfb36d1c4f9f1e9c6910dc92"), looks := false }, kinds := [], alts := [], laidByText := true, laidKinds := [.data, .pinned], laidTests := true, laidLooks := .later }
def QuoteLimitUptoCardSaid : Prop := Claim7.holds Tryd.pinned (.plain (OpenSpec.upto quoteLimitSpec)) quoteLimitUptoCard

/-- THE SECOND FORM's CARD OF 'cooperagelaw35.HistoryOrder'. -/
def historyOrderUptoCard : Claim7 := { stood := { row := historyOrderUptoRow, standIns := [], harness := (true, "f8ecf173177ae6de777795000fc66d0c15427d1fdfb36d1c4f9f1e9c6910dc92"), looks := false }, kinds := [], alts := [], laidByText := true, laidKinds := [.data, .data, .data], laidTests := true, laidLooks := .later }
def HistoryOrderUptoCardSaid : Prop := Claim7.holds Tryd.pinned (.plain (OpenSpec.upto historyOrderSpec)) historyOrderUptoCard

/-- THE SECOND FORM's CARD OF 'cooperagelaw35.HistoryIs'. -/
def historyIsUptoCard : Claim7 := { stood := { row := historyIsUptoRow, standIns := [], harness := (true, "f8ecf173177ae6de777795000fc66d0c15427d1fdfb36d1c4f9f1e9c6910dc92"), looks := false }, kinds := [], alts := [], laidByText := true, laidKinds := [.data, .data, .data], laidTests := true, laidLooks := .later }
def HistoryIsUptoCardSaid : Prop := Claim7.holds Tryd.pinned (.plain (OpenSpec.upto historyIsSpec)) historyIsUptoCard
end Rows
end Go.Proofs.YtlniiaopindjnaaDoor
