/-
  DERIVED. GIVEN WITH THE SEED: THE CARDS: each row of YtjpiofbedglagaaDoorRows.lean that lists a variable, with what it lists TIED to the program's text (the seventh form; the later family's looks); each row that meets fmt, with fmt's text TOLD by the authors' own Lean function (tested against real Go, not proved from fmt's source: count such statements apart). THE CARD IS WHAT COUNTS. Prove the row's statement (the work); the ties are given (YtjpiofbedglagaaDoorTie.lean); close each card by the builder's one call (the guide's Derived/Test/ToyasCard.lean, 'card_holds'). Laid BY PROGRAM, IN A SANDBOX (cutbox-door.mjs). By AI agents, Wed Nov 11 2026. No macro, syntax, notation, axiom, sorry.
-/
import Derived.Test.YtjpiofbedglagaaDoorRows
import GoSem.ClaimSeven
namespace Go.Proofs.YtjpiofbedglagaaDoor
namespace Rows

/-- THE TIED CARD OF 'hustingslaw14.PowerLevels'. -/
def powerLevelsCard : Claim7 := { stood := { row := powerLevelsRow, standIns := [], harness := (true, "7d57d410731b7d99cd7849504e41fbf2ac12831781868bb57b9b424dba520048"), looks := false }, kinds := [], alts := [], laidByText := true, laidKinds := [.widerDeep], laidTests := true, laidLooks := .later }
def PowerLevelsCardSaid : Prop := Claim7.holds Tryd.pinned (.plain (OpenSpec.ofChange powerLevelsSpec)) powerLevelsCard

/-- THE TIED CARD OF 'hustingslaw14.PowerUsers'. -/
def powerUsersCard : Claim7 := { stood := { row := powerUsersRow, standIns := [], harness := (true, "7d57d410731b7d99cd7849504e41fbf2ac12831781868bb57b9b424dba520048"), looks := false }, kinds := [], alts := [], laidByText := true, laidKinds := [.widerDeep], laidTests := true, laidLooks := .later }
def PowerUsersCardSaid : Prop := Claim7.holds Tryd.pinned (.plain (OpenSpec.ofChange powerUsersSpec)) powerUsersCard

/-- THE TIED CARD OF 'hustingslaw14.PowerSends'. -/
def powerSendsCard : Claim7 := { stood := { row := powerSendsRow, standIns := [], harness := (true, "7d57d410731b7d99cd7849504e41fbf2ac12831781868bb57b9b424dba520048"), looks := false }, kinds := [], alts := [], laidByText := true, laidKinds := [.widerDeep], laidTests := true, laidLooks := .later }
def PowerSendsCardSaid : Prop := Claim7.holds Tryd.pinned (.plain (OpenSpec.ofChange powerSendsSpec)) powerSendsCard

/-- THE TIED CARD OF 'hustingslaw14.PowerChanges'. -/
def powerChangesCard : Claim7 := { stood := { row := powerChangesRow, standIns := [], harness := (true, "7d57d410731b7d99cd7849504e41fbf2ac12831781868bb57b9b424dba520048"), looks := false }, kinds := [], alts := [], laidByText := true, laidKinds := [.widerDeep], laidTests := true, laidLooks := .later }
def PowerChangesCardSaid : Prop := Claim7.holds Tryd.pinned (.plain (OpenSpec.ofChange powerChangesSpec)) powerChangesCard

/-- THE TIED CARD OF 'hustingslaw14.PowerBounds'. -/
def powerBoundsCard : Claim7 := { stood := { row := powerBoundsRow, standIns := [], harness := (true, "7d57d410731b7d99cd7849504e41fbf2ac12831781868bb57b9b424dba520048"), looks := false }, kinds := [], alts := [], laidByText := true, laidKinds := [.widerDeep], laidTests := true, laidLooks := .later }
def PowerBoundsCardSaid : Prop := Claim7.holds Tryd.pinned (.plain (OpenSpec.ofChange powerBoundsSpec)) powerBoundsCard

/-- THE TIED CARD OF 'hustingslaw14.PowerLeaves'. -/
def powerLeavesCard : Claim7 := { stood := { row := powerLeavesRow, standIns := [], harness := (true, "7d57d410731b7d99cd7849504e41fbf2ac12831781868bb57b9b424dba520048"), looks := false }, kinds := [], alts := [], laidByText := true, laidKinds := [.widerDeep], laidTests := true, laidLooks := .later }
def PowerLeavesCardSaid : Prop := Claim7.holds Tryd.pinned (.plain (OpenSpec.ofChange powerLeavesSpec)) powerLeavesCard

/-- THE TIED CARD OF 'hustingslaw14.PowerNull'. -/
def powerNullCard : Claim7 := { stood := { row := powerNullRow, standIns := [], harness := (true, "7d57d410731b7d99cd7849504e41fbf2ac12831781868bb57b9b424dba520048"), looks := false }, kinds := [], alts := [], laidByText := true, laidKinds := [.widerDeep], laidTests := true, laidLooks := .later }
def PowerNullCardSaid : Prop := Claim7.holds Tryd.pinned (.plain (OpenSpec.ofChange powerNullSpec)) powerNullCard

/-- THE SECOND FORM's CARD OF 'hustingslaw14.PowerLevels'. -/
def powerLevelsUptoCard : Claim7 := { stood := { row := powerLevelsUptoRow, standIns := [], harness := (true, "7d57d410731b7d99cd7849504e41fbf2ac12831781868bb57b9b424dba520048"), looks := false }, kinds := [], alts := [], laidByText := true, laidKinds := [.widerDeep], laidTests := true, laidLooks := .later }
def PowerLevelsUptoCardSaid : Prop := Claim7.holds Tryd.pinned (.plain (OpenSpec.upto powerLevelsSpec)) powerLevelsUptoCard

/-- THE SECOND FORM's CARD OF 'hustingslaw14.PowerUsers'. -/
def powerUsersUptoCard : Claim7 := { stood := { row := powerUsersUptoRow, standIns := [], harness := (true, "7d57d410731b7d99cd7849504e41fbf2ac12831781868bb57b9b424dba520048"), looks := false }, kinds := [], alts := [], laidByText := true, laidKinds := [.widerDeep], laidTests := true, laidLooks := .later }
def PowerUsersUptoCardSaid : Prop := Claim7.holds Tryd.pinned (.plain (OpenSpec.upto powerUsersSpec)) powerUsersUptoCard

/-- THE SECOND FORM's CARD OF 'hustingslaw14.PowerSends'. -/
def powerSendsUptoCard : Claim7 := { stood := { row := powerSendsUptoRow, standIns := [], harness := (true, "7d57d410731b7d99cd7849504e41fbf2ac12831781868bb57b9b424dba520048"), looks := false }, kinds := [], alts := [], laidByText := true, laidKinds := [.widerDeep], laidTests := true, laidLooks := .later }
def PowerSendsUptoCardSaid : Prop := Claim7.holds Tryd.pinned (.plain (OpenSpec.upto powerSendsSpec)) powerSendsUptoCard

/-- THE SECOND FORM's CARD OF 'hustingslaw14.PowerChanges'. -/
def powerChangesUptoCard : Claim7 := { stood := { row := powerChangesUptoRow, standIns := [], harness := (true, "7d57d410731b7d99cd7849504e41fbf2ac12831781868bb57b9b424dba520048"), looks := false }, kinds := [], alts := [], laidByText := true, laidKinds := [.widerDeep], laidTests := true, laidLooks := .later }
def PowerChangesUptoCardSaid : Prop := Claim7.holds Tryd.pinned (.plain (OpenSpec.upto powerChangesSpec)) powerChangesUptoCard

/-- THE SECOND FORM's CARD OF 'hustingslaw14.PowerBounds'. -/
def powerBoundsUptoCard : Claim7 := { stood := { row := powerBoundsUptoRow, standIns := [], harness := (true, "7d57d410731b7d99cd7849504e41fbf2ac12831781868bb57b9b424dba520048"), looks := false }, kinds := [], alts := [], laidByText := true, laidKinds := [.widerDeep], laidTests := true, laidLooks := .later }
def PowerBoundsUptoCardSaid : Prop := Claim7.holds Tryd.pinned (.plain (OpenSpec.upto powerBoundsSpec)) powerBoundsUptoCard

/-- THE SECOND FORM's CARD OF 'hustingslaw14.PowerLeaves'. -/
def powerLeavesUptoCard : Claim7 := { stood := { row := powerLeavesUptoRow, standIns := [], harness := (true, "7d57d410731b7d99cd7849504e41fbf2ac12831781868bb57b9b424dba520048"), looks := false }, kinds := [], alts := [], laidByText := true, laidKinds := [.widerDeep], laidTests := true, laidLooks := .later }
def PowerLeavesUptoCardSaid : Prop := Claim7.holds Tryd.pinned (.plain (OpenSpec.upto powerLeavesSpec)) powerLeavesUptoCard

/-- THE SECOND FORM's CARD OF 'hustingslaw14.PowerNull'. -/
def powerNullUptoCard : Claim7 := { stood := { row := powerNullUptoRow, standIns := [], harness := (true, "7d57d410731b7d99cd7849504e41fbf2ac12831781868bb57b9b424dba520048"), looks := false }, kinds := [], alts := [], laidByText := true, laidKinds := [.widerDeep], laidTests := true, laidLooks := .later }
def PowerNullUptoCardSaid : Prop := Claim7.holds Tryd.pinned (.plain (OpenSpec.upto powerNullSpec)) powerNullUptoCard
end Rows
end Go.Proofs.YtjpiofbedglagaaDoor
