/-
  DERIVED. GIVEN WITH THE SEED: THE CARDS: each row of YtfpgjkaaadnmcaaDoorRows.lean that lists a variable, with what it lists TIED to the program's text (the seventh form; the later family's looks); each row that meets fmt, with fmt's text TOLD by the authors' own Lean function (tested against real Go, not proved from fmt's source: count such statements apart). THE CARD IS WHAT COUNTS. Prove the row's statement (the work); the ties are given (YtfpgjkaaadnmcaaDoorTie.lean); close each card by the builder's one call (the guide's Derived/Test/ToyasCard.lean, 'card_holds'). Laid BY PROGRAM, IN A SANDBOX (cutbox-door.mjs). By AI agents, Wed Nov 11 2026. No macro, syntax, notation, axiom, sorry.
-/
import Derived.Test.YtfpgjkaaadnmcaaDoorRows
import GoSem.ClaimSeven
namespace Go.Proofs.YtfpgjkaaadnmcaaDoor
namespace Rows

/-- THE TIED CARD OF 'hustingslaw08.QuoteTakes'. -/
def quoteTakesCard : Claim7 := { stood := { row := quoteTakesRow, standIns := [], harness := (true, "cafb35ac93e2988c6e19f06c08df11a5b4dbae8658045c21cf9b491c06ad99d1"), looks := false }, kinds := [], alts := [], laidByText := true, laidKinds := [.data, .pinned], laidTests := true, laidLooks := .later }
def QuoteTakesCardSaid : Prop := Claim7.holds Tryd.pinned (.plain (OpenSpec.ofChange quoteTakesSpec)) quoteTakesCard

/-- THE TIED CARD OF 'hustingslaw08.QuoteBack'. -/
def quoteBackCard : Claim7 := { stood := { row := quoteBackRow, standIns := [], harness := (true, "cafb35ac93e2988c6e19f06c08df11a5b4dbae8658045c21cf9b491c06ad99d1"), looks := false }, kinds := [], alts := [], laidByText := true, laidKinds := [.data, .pinned], laidTests := true, laidLooks := .later }
def QuoteBackCardSaid : Prop := Claim7.holds Tryd.pinned (.plain (OpenSpec.ofChange quoteBackSpec)) quoteBackCard

/-- THE TIED CARD OF 'hustingslaw08.QuoteReads'. -/
def quoteReadsCard : Claim7 := { stood := { row := quoteReadsRow, standIns := [], harness := (true, "cafb35ac93e2988c6e19f06c08df11a5b4dbae8658045c21cf9b491c06ad99d1"), looks := false }, kinds := [], alts := [], laidByText := true, laidKinds := [.data, .pinned], laidTests := true, laidLooks := .later }
def QuoteReadsCardSaid : Prop := Claim7.holds Tryd.pinned (.plain (OpenSpec.ofChange quoteReadsSpec)) quoteReadsCard

/-- THE TIED CARD OF 'hustingslaw08.QuoteRunes'. -/
def quoteRunesCard : Claim7 := { stood := { row := quoteRunesRow, standIns := [], harness := (true, "cafb35ac93e2988c6e19f06c08df11a5b4dbae8658045c21cf9b491c06ad99d1"), looks := false }, kinds := [], alts := [], laidByText := true, laidKinds := [.data, .pinned], laidTests := true, laidLooks := .later }
def QuoteRunesCardSaid : Prop := Claim7.holds Tryd.pinned (.plain (OpenSpec.ofChange quoteRunesSpec)) quoteRunesCard

/-- THE SECOND FORM's CARD OF 'hustingslaw08.QuoteTakes'. -/
def quoteTakesUptoCard : Claim7 := { stood := { row := quoteTakesUptoRow, standIns := [], harness := (true, "cafb35ac93e2988c6e19f06c08df11a5b4dbae8658045c21cf9b491c06ad99d1"), looks := false }, kinds := [], alts := [], laidByText := true, laidKinds := [.data, .pinned], laidTests := true, laidLooks := .later }
def QuoteTakesUptoCardSaid : Prop := Claim7.holds Tryd.pinned (.plain (OpenSpec.upto quoteTakesSpec)) quoteTakesUptoCard

/-- THE SECOND FORM's CARD OF 'hustingslaw08.QuoteBack'. -/
def quoteBackUptoCard : Claim7 := { stood := { row := quoteBackUptoRow, standIns := [], harness := (true, "cafb35ac93e2988c6e19f06c08df11a5b4dbae8658045c21cf9b491c06ad99d1"), looks := false }, kinds := [], alts := [], laidByText := true, laidKinds := [.data, .pinned], laidTests := true, laidLooks := .later }
def QuoteBackUptoCardSaid : Prop := Claim7.holds Tryd.pinned (.plain (OpenSpec.upto quoteBackSpec)) quoteBackUptoCard

/-- THE SECOND FORM's CARD OF 'hustingslaw08.QuoteReads'. -/
def quoteReadsUptoCard : Claim7 := { stood := { row := quoteReadsUptoRow, standIns := [], harness := (true, "cafb35ac93e2988c6e19f06c08df11a5b4dbae8658045c21cf9b491c06ad99d1"), looks := false }, kinds := [], alts := [], laidByText := true, laidKinds := [.data, .pinned], laidTests := true, laidLooks := .later }
def QuoteReadsUptoCardSaid : Prop := Claim7.holds Tryd.pinned (.plain (OpenSpec.upto quoteReadsSpec)) quoteReadsUptoCard

/-- THE SECOND FORM's CARD OF 'hustingslaw08.QuoteRunes'. -/
def quoteRunesUptoCard : Claim7 := { stood := { row := quoteRunesUptoRow, standIns := [], harness := (true, "cafb35ac93e2988c6e19f06c08df11a5b4dbae8658045c21cf9b491c06ad99d1"), looks := false }, kinds := [], alts := [], laidByText := true, laidKinds := [.data, .pinned], laidTests := true, laidLooks := .later }
def QuoteRunesUptoCardSaid : Prop := Claim7.holds Tryd.pinned (.plain (OpenSpec.upto quoteRunesSpec)) quoteRunesUptoCard
end Rows
end Go.Proofs.YtfpgjkaaadnmcaaDoor
