/-
  DERIVED. GIVEN WITH THE SEED: THE CARDS: each row of YtlopmjolahhpnaaDoorRows.lean that lists a variable, with what it lists TIED to the program's text (the seventh form; the later family's looks); each row that meets fmt, with fmt's text TOLD by the authors' own Lean function (tested against real Go, not proved from fmt's source: count such statements apart). THE CARD IS WHAT COUNTS. Prove the row's statement (the work); the ties are given (YtlopmjolahhpnaaDoorTie.lean); close each card by the builder's one call (the guide's Derived/Test/ToyasCard.lean, 'card_holds'). Laid BY PROGRAM, IN A SANDBOX (cutbox-door.mjs). By AI agents, Wed Nov 11 2026. No macro, syntax, notation, axiom, sorry.
-/
import Derived.Test.YtlopmjolahhpnaaDoorRows
import GoSem.ClaimSeven
namespace Go.Proofs.YtlopmjolahhpnaaDoor
namespace Rows

/-- THE TIED CARD OF 'hustingslaw03.Digest2Is'. -/
def digest2IsCard : Claim7 := { stood := { row := digest2IsRow, standIns := [], harness := (true, "6a57a3fb61a6b6aaca904e2ccc2e85979065949519a4e9946d571f0ae46f70ef"), looks := false }, kinds := [], alts := [], laidByText := true, laidKinds := [.data], laidTests := true, laidLooks := .later }
def Digest2IsCardSaid : Prop := Claim7.holds Tryd.pinned (.plain (OpenSpec.ofChange digest2IsSpec)) digest2IsCard

/-- THE TIED CARD OF 'hustingslaw03.Digest2Ends'. -/
def digest2EndsCard : Claim7 := { stood := { row := digest2EndsRow, standIns := [], harness := (true, "6a57a3fb61a6b6aaca904e2ccc2e85979065949519a4e9946d571f0ae46f70ef"), looks := false }, kinds := [], alts := [], laidByText := true, laidKinds := [.data], laidTests := true, laidLooks := .later }
def Digest2EndsCardSaid : Prop := Claim7.holds Tryd.pinned (.plain (OpenSpec.ofChange digest2EndsSpec)) digest2EndsCard

/-- THE TIED CARD OF 'hustingslaw03.Digest2Pieces'. -/
def digest2PiecesCard : Claim7 := { stood := { row := digest2PiecesRow, standIns := [], harness := (true, "6a57a3fb61a6b6aaca904e2ccc2e85979065949519a4e9946d571f0ae46f70ef"), looks := false }, kinds := [], alts := [], laidByText := true, laidKinds := [.data], laidTests := true, laidLooks := .later }
def Digest2PiecesCardSaid : Prop := Claim7.holds Tryd.pinned (.plain (OpenSpec.ofChange digest2PiecesSpec)) digest2PiecesCard

/-- THE TIED CARD OF 'hustingslaw03.Digest2Keeps'. -/
def digest2KeepsCard : Claim7 := { stood := { row := digest2KeepsRow, standIns := [], harness := (true, "6a57a3fb61a6b6aaca904e2ccc2e85979065949519a4e9946d571f0ae46f70ef"), looks := false }, kinds := [], alts := [], laidByText := true, laidKinds := [.data], laidTests := true, laidLooks := .later }
def Digest2KeepsCardSaid : Prop := Claim7.holds Tryd.pinned (.plain (OpenSpec.ofChange digest2KeepsSpec)) digest2KeepsCard

/-- THE SECOND FORM's CARD OF 'hustingslaw03.Digest2Is'. -/
def digest2IsUptoCard : Claim7 := { stood := { row := digest2IsUptoRow, standIns := [], harness := (true, "6a57a3fb61a6b6aaca904e2ccc2e85979065949519a4e9946d571f0ae46f70ef"), looks := false }, kinds := [], alts := [], laidByText := true, laidKinds := [.data], laidTests := true, laidLooks := .later }
def Digest2IsUptoCardSaid : Prop := Claim7.holds Tryd.pinned (.plain (OpenSpec.upto digest2IsSpec)) digest2IsUptoCard

/-- THE SECOND FORM's CARD OF 'hustingslaw03.Digest2Ends'. -/
def digest2EndsUptoCard : Claim7 := { stood := { row := digest2EndsUptoRow, standIns := [], harness := (true, "6a57a3fb61a6b6aaca904e2ccc2e85979065949519a4e9946d571f0ae46f70ef"), looks := false }, kinds := [], alts := [], laidByText := true, laidKinds := [.data], laidTests := true, laidLooks := .later }
def Digest2EndsUptoCardSaid : Prop := Claim7.holds Tryd.pinned (.plain (OpenSpec.upto digest2EndsSpec)) digest2EndsUptoCard

/-- THE SECOND FORM's CARD OF 'hustingslaw03.Digest2Pieces'. -/
def digest2PiecesUptoCard : Claim7 := { stood := { row := digest2PiecesUptoRow, standIns := [], harness := (true, "6a57a3fb61a6b6aaca904e2ccc2e85979065949519a4e9946d571f0ae46f70ef"), looks := false }, kinds := [], alts := [], laidByText := true, laidKinds := [.data], laidTests := true, laidLooks := .later }
def Digest2PiecesUptoCardSaid : Prop := Claim7.holds Tryd.pinned (.plain (OpenSpec.upto digest2PiecesSpec)) digest2PiecesUptoCard

/-- THE SECOND FORM's CARD OF 'hustingslaw03.Digest2Keeps'. -/
def digest2KeepsUptoCard : Claim7 := { stood := { row := digest2KeepsUptoRow, standIns := [], harness := (true, "6a57a3fb61a6b6aaca904e2ccc2e85979065949519a4e9946d571f0ae46f70ef"), looks := false }, kinds := [], alts := [], laidByText := true, laidKinds := [.data], laidTests := true, laidLooks := .later }
def Digest2KeepsUptoCardSaid : Prop := Claim7.holds Tryd.pinned (.plain (OpenSpec.upto digest2KeepsSpec)) digest2KeepsUptoCard
end Rows
end Go.Proofs.YtlopmjolahhpnaaDoor
