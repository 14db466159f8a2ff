/-
  DERIVED. GIVEN WITH THE SEED: THE CARDS: each row of YtaaipbhfikefaaaDoorRows.lean that lists a variable, with what it lists TIED to the program's text (the seventh form; the later family's looks); each row that meets fmt, with fmt's text TOLD by the authors' own Lean function (tested against real Go, not proved from fmt's source: count such statements apart). THE CARD IS WHAT COUNTS. Prove the row's statement (the work); the ties are given (YtaaipbhfikefaaaDoorTie.lean); close each card by the builder's one call (the guide's Derived/Test/ToyasCard.lean, 'card_holds'). Laid BY PROGRAM, IN A SANDBOX (cutbox-door.mjs). By AI agents, Wed Nov 11 2026. No macro, syntax, notation, axiom, sorry.
-/
import Derived.Test.YtaaipbhfikefaaaDoorRows
import GoSem.ClaimSeven
namespace Go.Proofs.YtaaipbhfikefaaaDoor
namespace Rows

/-- THE TIED CARD OF 'hustingslaw06.CurveDecodes'. -/
def curveDecodesCard : Claim7 := { stood := { row := curveDecodesRow, standIns := [], harness := (true, "7d7d6c9a75754aeb63b7137142b301bd3c4e78844536a991fdf2a79cb0a9bff0"), looks := false }, kinds := [], alts := [], laidByText := true, laidKinds := [.data], laidTests := true, laidLooks := .later }
def CurveDecodesCardSaid : Prop := Claim7.holds Tryd.pinned (.plain (OpenSpec.ofChange curveDecodesSpec)) curveDecodesCard

/-- THE TIED CARD OF 'hustingslaw06.CurveAdds'. -/
def curveAddsCard : Claim7 := { stood := { row := curveAddsRow, standIns := [], harness := (true, "7d7d6c9a75754aeb63b7137142b301bd3c4e78844536a991fdf2a79cb0a9bff0"), looks := false }, kinds := [], alts := [], laidByText := true, laidKinds := [.data], laidTests := true, laidLooks := .later }
def CurveAddsCardSaid : Prop := Claim7.holds Tryd.pinned (.plain (OpenSpec.ofChange curveAddsSpec)) curveAddsCard

/-- THE TIED CARD OF 'hustingslaw06.CurveLaws'. -/
def curveLawsCard : Claim7 := { stood := { row := curveLawsRow, standIns := [], harness := (true, "7d7d6c9a75754aeb63b7137142b301bd3c4e78844536a991fdf2a79cb0a9bff0"), looks := false }, kinds := [], alts := [], laidByText := true, laidKinds := [.data], laidTests := true, laidLooks := .later }
def CurveLawsCardSaid : Prop := Claim7.holds Tryd.pinned (.plain (OpenSpec.ofChange curveLawsSpec)) curveLawsCard

/-- THE TIED CARD OF 'hustingslaw06.CurveSigns'. -/
def curveSignsCard : Claim7 := { stood := { row := curveSignsRow, standIns := [], harness := (true, "7d7d6c9a75754aeb63b7137142b301bd3c4e78844536a991fdf2a79cb0a9bff0"), looks := false }, kinds := [], alts := [], laidByText := true, laidKinds := [.data], laidTests := true, laidLooks := .later }
def CurveSignsCardSaid : Prop := Claim7.holds Tryd.pinned (.plain (OpenSpec.ofChange curveSignsSpec)) curveSignsCard

/-- THE TIED CARD OF 'hustingslaw06.CurveMuls'. -/
def curveMulsCard : Claim7 := { stood := { row := curveMulsRow, standIns := [], harness := (true, "7d7d6c9a75754aeb63b7137142b301bd3c4e78844536a991fdf2a79cb0a9bff0"), looks := false }, kinds := [], alts := [], laidByText := true, laidKinds := [.data], laidTests := true, laidLooks := .later }
def CurveMulsCardSaid : Prop := Claim7.holds Tryd.pinned (.plain (OpenSpec.ofChange curveMulsSpec)) curveMulsCard

/-- THE TIED CARD OF 'hustingslaw06.CurveTimes'. -/
def curveTimesCard : Claim7 := { stood := { row := curveTimesRow, standIns := [], harness := (true, "7d7d6c9a75754aeb63b7137142b301bd3c4e78844536a991fdf2a79cb0a9bff0"), looks := false }, kinds := [], alts := [], laidByText := true, laidKinds := [.data], laidTests := true, laidLooks := .later }
def CurveTimesCardSaid : Prop := Claim7.holds Tryd.pinned (.plain (OpenSpec.ofChange curveTimesSpec)) curveTimesCard

/-- THE TIED CARD OF 'hustingslaw06.CurveOrder'. -/
def curveOrderCard : Claim7 := { stood := { row := curveOrderRow, standIns := [], harness := (true, "7d7d6c9a75754aeb63b7137142b301bd3c4e78844536a991fdf2a79cb0a9bff0"), looks := false }, kinds := [], alts := [], laidByText := true, laidKinds := [.data, .data], laidTests := true, laidLooks := .later }
def CurveOrderCardSaid : Prop := Claim7.holds Tryd.pinned (.plain (OpenSpec.ofChange curveOrderSpec)) curveOrderCard

/-- THE SECOND FORM's CARD OF 'hustingslaw06.CurveDecodes'. -/
def curveDecodesUptoCard : Claim7 := { stood := { row := curveDecodesUptoRow, standIns := [], harness := (true, "7d7d6c9a75754aeb63b7137142b301bd3c4e78844536a991fdf2a79cb0a9bff0"), looks := false }, kinds := [], alts := [], laidByText := true, laidKinds := [.data], laidTests := true, laidLooks := .later }
def CurveDecodesUptoCardSaid : Prop := Claim7.holds Tryd.pinned (.plain (OpenSpec.upto curveDecodesSpec)) curveDecodesUptoCard

/-- THE SECOND FORM's CARD OF 'hustingslaw06.CurveAdds'. -/
def curveAddsUptoCard : Claim7 := { stood := { row := curveAddsUptoRow, standIns := [], harness := (true, "7d7d6c9a75754aeb63b7137142b301bd3c4e78844536a991fdf2a79cb0a9bff0"), looks := false }, kinds := [], alts := [], laidByText := true, laidKinds := [.data], laidTests := true, laidLooks := .later }
def CurveAddsUptoCardSaid : Prop := Claim7.holds Tryd.pinned (.plain (OpenSpec.upto curveAddsSpec)) curveAddsUptoCard

/-- THE SECOND FORM's CARD OF 'hustingslaw06.CurveLaws'. -/
def curveLawsUptoCard : Claim7 := { stood := { row := curveLawsUptoRow, standIns := [], harness := (true, "7d7d6c9a75754aeb63b7137142b301bd3c4e78844536a991fdf2a79cb0a9bff0"), looks := false }, kinds := [], alts := [], laidByText := true, laidKinds := [.data], laidTests := true, laidLooks := .later }
def CurveLawsUptoCardSaid : Prop := Claim7.holds Tryd.pinned (.plain (OpenSpec.upto curveLawsSpec)) curveLawsUptoCard

/-- THE SECOND FORM's CARD OF 'hustingslaw06.CurveSigns'. -/
def curveSignsUptoCard : Claim7 := { stood := { row := curveSignsUptoRow, standIns := [], harness := (true, "7d7d6c9a75754aeb63b7137142b301bd3c4e78844536a991fdf2a79cb0a9bff0"), looks := false }, kinds := [], alts := [], laidByText := true, laidKinds := [.data], laidTests := true, laidLooks := .later }
def CurveSignsUptoCardSaid : Prop := Claim7.holds Tryd.pinned (.plain (OpenSpec.upto curveSignsSpec)) curveSignsUptoCard

/-- THE SECOND FORM's CARD OF 'hustingslaw06.CurveMuls'. -/
def curveMulsUptoCard : Claim7 := { stood := { row := curveMulsUptoRow, standIns := [], harness := (true, "7d7d6c9a75754aeb63b7137142b301bd3c4e78844536a991fdf2a79cb0a9bff0"), looks := false }, kinds := [], alts := [], laidByText := true, laidKinds := [.data], laidTests := true, laidLooks := .later }
def CurveMulsUptoCardSaid : Prop := Claim7.holds Tryd.pinned (.plain (OpenSpec.upto curveMulsSpec)) curveMulsUptoCard

/-- THE SECOND FORM's CARD OF 'hustingslaw06.CurveTimes'. -/
def curveTimesUptoCard : Claim7 := { stood := { row := curveTimesUptoRow, standIns := [], harness := (true, "7d7d6c9a75754aeb63b7137142b301bd3c4e78844536a991fdf2a79cb0a9bff0"), looks := false }, kinds := [], alts := [], laidByText := true, laidKinds := [.data], laidTests := true, laidLooks := .later }
def CurveTimesUptoCardSaid : Prop := Claim7.holds Tryd.pinned (.plain (OpenSpec.upto curveTimesSpec)) curveTimesUptoCard

/-- THE SECOND FORM's CARD OF 'hustingslaw06.CurveOrder'. -/
def curveOrderUptoCard : Claim7 := { stood := { row := curveOrderUptoRow, standIns := [], harness := (true, "7d7d6c9a75754aeb63b7137142b301bd3c4e78844536a991fdf2a79cb0a9bff0"), looks := false }, kinds := [], alts := [], laidByText := true, laidKinds := [.data, .data], laidTests := true, laidLooks := .later }
def CurveOrderUptoCardSaid : Prop := Claim7.holds Tryd.pinned (.plain (OpenSpec.upto curveOrderSpec)) curveOrderUptoCard
end Rows
end Go.Proofs.YtaaipbhfikefaaaDoor
