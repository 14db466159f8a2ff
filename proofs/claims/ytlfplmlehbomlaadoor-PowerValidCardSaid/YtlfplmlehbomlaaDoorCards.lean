/-
  DERIVED. GIVEN WITH THE SEED: THE CARDS: each row of YtlfplmlehbomlaaDoorRows.lean that lists a variable, with what it lists TIED to the program's text (the seventh form; the later family's looks); each row that meets fmt, with fmt's text TOLD by the authors' own Lean function (tested against real Go, not proved from fmt's source: count such statements apart). THE CARD IS WHAT COUNTS. Prove the row's statement (the work); the ties are given (YtlfplmlehbomlaaDoorTie.lean); close each card by the builder's one call (the guide's Derived/Test/ToyasCard.lean, 'card_holds'). Laid BY PROGRAM, IN A SANDBOX (cutbox-door.mjs). By AI agents, Wed Nov 11 2026. No macro, syntax, notation, axiom, sorry.
-/
import Derived.Test.YtlfplmlehbomlaaDoorRows
import GoSem.ClaimSeven
namespace Go.Proofs.YtlfplmlehbomlaaDoor
namespace Rows

/-- THE TIED CARD OF 'hustingslaw14.PowerValid'. -/
def powerValidCard : Claim7 := { stood := { row := powerValidRow, standIns := [], harness := (true, "4371f69fb5f1ead110ca4d6676e2700d971cc0a2369532c16b4fd2f248c90bc5"), looks := false }, kinds := [], alts := [], laidByText := true, laidKinds := [.widerDeep], laidTests := true, laidLooks := .later }
def PowerValidCardSaid : Prop := Claim7.holds Tryd.pinned (.plain (OpenSpec.ofChange powerValidSpec)) powerValidCard

/-- THE SECOND FORM's CARD OF 'hustingslaw14.PowerValid'. -/
def powerValidUptoCard : Claim7 := { stood := { row := powerValidUptoRow, standIns := [], harness := (true, "4371f69fb5f1ead110ca4d6676e2700d971cc0a2369532c16b4fd2f248c90bc5"), looks := false }, kinds := [], alts := [], laidByText := true, laidKinds := [.widerDeep], laidTests := true, laidLooks := .later }
def PowerValidUptoCardSaid : Prop := Claim7.holds Tryd.pinned (.plain (OpenSpec.upto powerValidSpec)) powerValidUptoCard
end Rows
end Go.Proofs.YtlfplmlehbomlaaDoor
