/-
  DERIVED. GIVEN WITH THE SEED: THE CARDS: each row of YtchokhakdnjfmaaDoorRows.lean that lists a variable, with what it lists TIED to the program's text (the seventh form; the later family's looks); each row that meets fmt, with fmt's text TOLD by the authors' own Lean function (tested against real Go, not proved from fmt's source: count such statements apart). THE CARD IS WHAT COUNTS. Prove the row's statement (the work); the ties are given (YtchokhakdnjfmaaDoorTie.lean); close each card by the builder's one call (the guide's Derived/Test/ToyasCard.lean, 'card_holds'). Laid BY PROGRAM, IN A SANDBOX (cutbox-door.mjs). By AI agents, Wed Nov 11 2026. No macro, syntax, notation, axiom, sorry.
-/
import Derived.Test.YtchokhakdnjfmaaDoorRows
import GoSem.ClaimSeven
namespace Go.Proofs.YtchokhakdnjfmaaDoor
namespace Rows

/-- THE TIED CARD OF 'hustingslaw05.ScalarRests'. -/
def scalarRestsCard : Claim7 := { stood := { row := scalarRestsRow, standIns := [], harness := (true, "ff9946c05c0055d26b2af760841b70050abaa96d68b14626f0d8d6e5fa8619b2"), looks := false }, kinds := [], alts := [], laidByText := true, laidKinds := [.data], laidTests := true, laidLooks := .later }
def ScalarRestsCardSaid : Prop := Claim7.holds Tryd.pinned (.plain (OpenSpec.ofChange scalarRestsSpec)) scalarRestsCard

/-- THE TIED CARD OF 'hustingslaw05.ScalarGood'. -/
def scalarGoodCard : Claim7 := { stood := { row := scalarGoodRow, standIns := [], harness := (true, "ff9946c05c0055d26b2af760841b70050abaa96d68b14626f0d8d6e5fa8619b2"), looks := false }, kinds := [], alts := [], laidByText := true, laidKinds := [.data], laidTests := true, laidLooks := .later }
def ScalarGoodCardSaid : Prop := Claim7.holds Tryd.pinned (.plain (OpenSpec.ofChange scalarGoodSpec)) scalarGoodCard

/-- THE TIED CARD OF 'hustingslaw05.ScalarKeeps'. -/
def scalarKeepsCard : Claim7 := { stood := { row := scalarKeepsRow, standIns := [], harness := (true, "ff9946c05c0055d26b2af760841b70050abaa96d68b14626f0d8d6e5fa8619b2"), looks := false }, kinds := [], alts := [], laidByText := true, laidKinds := [.data], laidTests := true, laidLooks := .later }
def ScalarKeepsCardSaid : Prop := Claim7.holds Tryd.pinned (.plain (OpenSpec.ofChange scalarKeepsSpec)) scalarKeepsCard

/-- THE TIED CARD OF 'hustingslaw05.ScalarSmall'. -/
def scalarSmallCard : Claim7 := { stood := { row := scalarSmallRow, standIns := [], harness := (true, "ff9946c05c0055d26b2af760841b70050abaa96d68b14626f0d8d6e5fa8619b2"), looks := false }, kinds := [], alts := [], laidByText := true, laidKinds := [.data], laidTests := true, laidLooks := .later }
def ScalarSmallCardSaid : Prop := Claim7.holds Tryd.pinned (.plain (OpenSpec.ofChange scalarSmallSpec)) scalarSmallCard

/-- THE TIED CARD OF 'hustingslaw05.ScalarMuls'. -/
def scalarMulsCard : Claim7 := { stood := { row := scalarMulsRow, standIns := [], harness := (true, "ff9946c05c0055d26b2af760841b70050abaa96d68b14626f0d8d6e5fa8619b2"), looks := false }, kinds := [], alts := [], laidByText := true, laidKinds := [.data], laidTests := true, laidLooks := .later }
def ScalarMulsCardSaid : Prop := Claim7.holds Tryd.pinned (.plain (OpenSpec.ofChange scalarMulsSpec)) scalarMulsCard

/-- THE TIED CARD OF 'hustingslaw05.ScalarLaws'. -/
def scalarLawsCard : Claim7 := { stood := { row := scalarLawsRow, standIns := [], harness := (true, "ff9946c05c0055d26b2af760841b70050abaa96d68b14626f0d8d6e5fa8619b2"), looks := false }, kinds := [], alts := [], laidByText := true, laidKinds := [.data], laidTests := true, laidLooks := .later }
def ScalarLawsCardSaid : Prop := Claim7.holds Tryd.pinned (.plain (OpenSpec.ofChange scalarLawsSpec)) scalarLawsCard

/-- THE SECOND FORM's CARD OF 'hustingslaw05.ScalarRests'. -/
def scalarRestsUptoCard : Claim7 := { stood := { row := scalarRestsUptoRow, standIns := [], harness := (true, "ff9946c05c0055d26b2af760841b70050abaa96d68b14626f0d8d6e5fa8619b2"), looks := false }, kinds := [], alts := [], laidByText := true, laidKinds := [.data], laidTests := true, laidLooks := .later }
def ScalarRestsUptoCardSaid : Prop := Claim7.holds Tryd.pinned (.plain (OpenSpec.upto scalarRestsSpec)) scalarRestsUptoCard

/-- THE SECOND FORM's CARD OF 'hustingslaw05.ScalarGood'. -/
def scalarGoodUptoCard : Claim7 := { stood := { row := scalarGoodUptoRow, standIns := [], harness := (true, "ff9946c05c0055d26b2af760841b70050abaa96d68b14626f0d8d6e5fa8619b2"), looks := false }, kinds := [], alts := [], laidByText := true, laidKinds := [.data], laidTests := true, laidLooks := .later }
def ScalarGoodUptoCardSaid : Prop := Claim7.holds Tryd.pinned (.plain (OpenSpec.upto scalarGoodSpec)) scalarGoodUptoCard

/-- THE SECOND FORM's CARD OF 'hustingslaw05.ScalarKeeps'. -/
def scalarKeepsUptoCard : Claim7 := { stood := { row := scalarKeepsUptoRow, standIns := [], harness := (true, "ff9946c05c0055d26b2af760841b70050abaa96d68b14626f0d8d6e5fa8619b2"), looks := false }, kinds := [], alts := [], laidByText := true, laidKinds := [.data], laidTests := true, laidLooks := .later }
def ScalarKeepsUptoCardSaid : Prop := Claim7.holds Tryd.pinned (.plain (OpenSpec.upto scalarKeepsSpec)) scalarKeepsUptoCard

/-- THE SECOND FORM's CARD OF 'hustingslaw05.ScalarSmall'. -/
def scalarSmallUptoCard : Claim7 := { stood := { row := scalarSmallUptoRow, standIns := [], harness := (true, "ff9946c05c0055d26b2af760841b70050abaa96d68b14626f0d8d6e5fa8619b2"), looks := false }, kinds := [], alts := [], laidByText := true, laidKinds := [.data], laidTests := true, laidLooks := .later }
def ScalarSmallUptoCardSaid : Prop := Claim7.holds Tryd.pinned (.plain (OpenSpec.upto scalarSmallSpec)) scalarSmallUptoCard

/-- THE SECOND FORM's CARD OF 'hustingslaw05.ScalarMuls'. -/
def scalarMulsUptoCard : Claim7 := { stood := { row := scalarMulsUptoRow, standIns := [], harness := (true, "ff9946c05c0055d26b2af760841b70050abaa96d68b14626f0d8d6e5fa8619b2"), looks := false }, kinds := [], alts := [], laidByText := true, laidKinds := [.data], laidTests := true, laidLooks := .later }
def ScalarMulsUptoCardSaid : Prop := Claim7.holds Tryd.pinned (.plain (OpenSpec.upto scalarMulsSpec)) scalarMulsUptoCard

/-- THE SECOND FORM's CARD OF 'hustingslaw05.ScalarLaws'. -/
def scalarLawsUptoCard : Claim7 := { stood := { row := scalarLawsUptoRow, standIns := [], harness := (true, "ff9946c05c0055d26b2af760841b70050abaa96d68b14626f0d8d6e5fa8619b2"), looks := false }, kinds := [], alts := [], laidByText := true, laidKinds := [.data], laidTests := true, laidLooks := .later }
def ScalarLawsUptoCardSaid : Prop := Claim7.holds Tryd.pinned (.plain (OpenSpec.upto scalarLawsSpec)) scalarLawsUptoCard
end Rows
end Go.Proofs.YtchokhakdnjfmaaDoor
