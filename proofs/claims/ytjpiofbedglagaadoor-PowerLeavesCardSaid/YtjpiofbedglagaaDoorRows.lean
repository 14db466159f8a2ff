/-
  NARROWER THAN 'FOR EVERY INPUT', by the rows' own cells (each row's printed sentence says how): PowerLevels: loops, laid · PowerUsers: loops, laid · PowerSends: loops, laid · PowerChanges: loops, laid · PowerBounds: loops, laid · PowerLeaves: loops, laid · PowerNull: laid.
  DERIVED. THE GIVEN ROWS OF THIS SEAT. 7 by the template 'for every input the law returns true; each argument reads behind the call as it read before'; 0 by the template 'total and deterministic' (their statements: YtjpiofbedglagaaDoorTotals.lean).
  GIVEN WITH THE SEED: the statements are not yours to turn. If you find one false, say at which input.
  Laid BY PROGRAM, IN A SANDBOX (cutbox-rows.mjs): the forced cells as the released guide's own fill.sh prints them over the translation e6eba2306fc54425… (all of the seat's roots in one cut). By AI agents, Wed Nov 11 2026. No macro, syntax, notation, axiom, sorry.
-/
import Derived.Test.YtjpiofbedglagaaDoorChecked
import GoSem.Claim
import GoSem.ClaimJoined
import GoSem.ClaimMapViews
import Derived.JoinedTies
import Derived.KernelRfl
namespace Go.Proofs.YtjpiofbedglagaaDoor
/- THE CELL 'sum', in the pinned program and in every row, IS THE sha256 OF THE DUMP (.gsa) THAT YtjpiofbedglagaaDoorProg.lean LOADS. Nothing in Lean hashes anything: it is a label: what it is worth is what the hold of that sum in a sandbox is worth. -/
noncomputable def Tryd.pinned : Pinned := { name := "ytjpiofbedglagaadoor", sum := "e6eba2306fc54425b650ee70a47c607a0f37978c36ad79a651515dc69dd736dc", checked := Tryd.checked }
namespace Rows
def none {H : Type} : Left H := { results := [], args := [] }

/- WHAT THE LISTED PACKAGE-LEVEL VARIABLES READ AS WHEN THE CALL BEGINS. Each datum BY PROGRAM (the guide's laid-datum.mjs) off the statement by which the dump's own 'gosem.cut.vars' lays the variable. In a bare row this is a premise. The card (YtjpiofbedglagaaDoorCards.lean) ties it to the program's text. -/
def laid_hustings_power_names {H : Type} : DataW H := .slice [.agg [.lit (.string [98, 97, 110]), .lit (.int .i64 50)], .agg [.lit (.string [101, 118, 101, 110, 116, 115, 95, 100, 101, 102, 97, 117, 108, 116]), .lit (.int .i64 0)], .agg [.lit (.string [105, 110, 118, 105, 116, 101]), .lit (.int .i64 0)], .agg [.lit (.string [107, 105, 99, 107]), .lit (.int .i64 50)], .agg [.lit (.string [114, 101, 100, 97, 99, 116]), .lit (.int .i64 50)], .agg [.lit (.string [115, 116, 97, 116, 101, 95, 100, 101, 102, 97, 117, 108, 116]), .lit (.int .i64 50)], .agg [.lit (.string [117, 115, 101, 114, 115, 95, 100, 101, 102, 97, 117, 108, 116]), .lit (.int .i64 0)]] []

/-- 'hustingslaw14.PowerLevels': WHATEVER THE INPUT: true; the input reads as it did. -/
def powerLevelsSpec : ChangeSpec := { name := "powerLevels", fn := fun _ => fun
  | [d1, d2] => { results := [.lit (.bool true)], args := [d1, d2] }
  | _ => none }
def powerLevelsRow : OpenClaim := { program := "ytjpiofbedglagaadoor", sum := "e6eba2306fc54425b650ee70a47c607a0f37978c36ad79a651515dc69dd736dc", func := "hustings/hustingslaw14.PowerLevels", spec := "powerLevels", inPlace := ["internal/bytealg.abigen_runtime_cmpstring"], unfollowed := true, recurses := true, named := ["hustings/power.names"], loops := true, apart := false, laid := [("hustings/power.names", laid_hustings_power_names)] }
def PowerLevelsSaid : Prop := powerLevelsRow.holds Tryd.pinned (OpenSpec.ofChange powerLevelsSpec)

/-- ITS FALSE NEIGHBOUR: 'it returns false'. Refute it at one input. -/
def powerLevelsWrong : ChangeSpec := { name := "powerLevels", fn := fun _ => fun
  | [d1, d2] => { results := [.lit (.bool false)], args := [d1, d2] }
  | _ => none }
def PowerLevelsWrongFalsely : Prop := powerLevelsRow.holds Tryd.pinned (OpenSpec.ofChange powerLevelsWrong)

/-- 'hustingslaw14.PowerUsers': WHATEVER THE INPUT: true; the input reads as it did. -/
def powerUsersSpec : ChangeSpec := { name := "powerUsers", fn := fun _ => fun
  | [d1, d2, d3] => { results := [.lit (.bool true)], args := [d1, d2, d3] }
  | _ => none }
def powerUsersRow : OpenClaim := { program := "ytjpiofbedglagaadoor", sum := "e6eba2306fc54425b650ee70a47c607a0f37978c36ad79a651515dc69dd736dc", func := "hustings/hustingslaw14.PowerUsers", spec := "powerUsers", inPlace := ["internal/bytealg.abigen_runtime_cmpstring"], unfollowed := true, recurses := true, named := ["hustings/power.names"], loops := true, apart := false, laid := [("hustings/power.names", laid_hustings_power_names)] }
def PowerUsersSaid : Prop := powerUsersRow.holds Tryd.pinned (OpenSpec.ofChange powerUsersSpec)

/-- ITS FALSE NEIGHBOUR: 'it returns false'. Refute it at one input. -/
def powerUsersWrong : ChangeSpec := { name := "powerUsers", fn := fun _ => fun
  | [d1, d2, d3] => { results := [.lit (.bool false)], args := [d1, d2, d3] }
  | _ => none }
def PowerUsersWrongFalsely : Prop := powerUsersRow.holds Tryd.pinned (OpenSpec.ofChange powerUsersWrong)

/-- 'hustingslaw14.PowerSends': WHATEVER THE INPUT: true; the input reads as it did. -/
def powerSendsSpec : ChangeSpec := { name := "powerSends", fn := fun _ => fun
  | [d1, d2, d3] => { results := [.lit (.bool true)], args := [d1, d2, d3] }
  | _ => none }
def powerSendsRow : OpenClaim := { program := "ytjpiofbedglagaadoor", sum := "e6eba2306fc54425b650ee70a47c607a0f37978c36ad79a651515dc69dd736dc", func := "hustings/hustingslaw14.PowerSends", spec := "powerSends", inPlace := ["internal/bytealg.abigen_runtime_cmpstring"], unfollowed := true, recurses := true, named := ["hustings/power.names"], loops := true, apart := false, laid := [("hustings/power.names", laid_hustings_power_names)] }
def PowerSendsSaid : Prop := powerSendsRow.holds Tryd.pinned (OpenSpec.ofChange powerSendsSpec)

/-- ITS FALSE NEIGHBOUR: 'it returns false'. Refute it at one input. -/
def powerSendsWrong : ChangeSpec := { name := "powerSends", fn := fun _ => fun
  | [d1, d2, d3] => { results := [.lit (.bool false)], args := [d1, d2, d3] }
  | _ => none }
def PowerSendsWrongFalsely : Prop := powerSendsRow.holds Tryd.pinned (OpenSpec.ofChange powerSendsWrong)

/-- 'hustingslaw14.PowerChanges': WHATEVER THE INPUT: true; the input reads as it did. -/
def powerChangesSpec : ChangeSpec := { name := "powerChanges", fn := fun _ => fun
  | [d1, d2, d3, d4] => { results := [.lit (.bool true)], args := [d1, d2, d3, d4] }
  | _ => none }
def powerChangesRow : OpenClaim := { program := "ytjpiofbedglagaadoor", sum := "e6eba2306fc54425b650ee70a47c607a0f37978c36ad79a651515dc69dd736dc", func := "hustings/hustingslaw14.PowerChanges", spec := "powerChanges", inPlace := ["internal/bytealg.abigen_runtime_cmpstring"], unfollowed := true, recurses := true, named := ["hustings/power.names"], loops := true, apart := false, laid := [("hustings/power.names", laid_hustings_power_names)] }
def PowerChangesSaid : Prop := powerChangesRow.holds Tryd.pinned (OpenSpec.ofChange powerChangesSpec)

/-- ITS FALSE NEIGHBOUR: 'it returns false'. Refute it at one input. -/
def powerChangesWrong : ChangeSpec := { name := "powerChanges", fn := fun _ => fun
  | [d1, d2, d3, d4] => { results := [.lit (.bool false)], args := [d1, d2, d3, d4] }
  | _ => none }
def PowerChangesWrongFalsely : Prop := powerChangesRow.holds Tryd.pinned (OpenSpec.ofChange powerChangesWrong)

/-- 'hustingslaw14.PowerBounds': WHATEVER THE INPUT: true; the input reads as it did. -/
def powerBoundsSpec : ChangeSpec := { name := "powerBounds", fn := fun _ => fun
  | [d1, d2, d3, d4] => { results := [.lit (.bool true)], args := [d1, d2, d3, d4] }
  | _ => none }
def powerBoundsRow : OpenClaim := { program := "ytjpiofbedglagaadoor", sum := "e6eba2306fc54425b650ee70a47c607a0f37978c36ad79a651515dc69dd736dc", func := "hustings/hustingslaw14.PowerBounds", spec := "powerBounds", inPlace := ["internal/bytealg.abigen_runtime_cmpstring"], unfollowed := true, recurses := true, named := ["hustings/power.names"], loops := true, apart := false, laid := [("hustings/power.names", laid_hustings_power_names)] }
def PowerBoundsSaid : Prop := powerBoundsRow.holds Tryd.pinned (OpenSpec.ofChange powerBoundsSpec)

/-- ITS FALSE NEIGHBOUR: 'it returns false'. Refute it at one input. -/
def powerBoundsWrong : ChangeSpec := { name := "powerBounds", fn := fun _ => fun
  | [d1, d2, d3, d4] => { results := [.lit (.bool false)], args := [d1, d2, d3, d4] }
  | _ => none }
def PowerBoundsWrongFalsely : Prop := powerBoundsRow.holds Tryd.pinned (OpenSpec.ofChange powerBoundsWrong)

/-- 'hustingslaw14.PowerLeaves': WHATEVER THE INPUT: true; the input reads as it did. -/
def powerLeavesSpec : ChangeSpec := { name := "powerLeaves", fn := fun _ => fun
  | [d1, d2, d3, d4] => { results := [.lit (.bool true)], args := [d1, d2, d3, d4] }
  | _ => none }
def powerLeavesRow : OpenClaim := { program := "ytjpiofbedglagaadoor", sum := "e6eba2306fc54425b650ee70a47c607a0f37978c36ad79a651515dc69dd736dc", func := "hustings/hustingslaw14.PowerLeaves", spec := "powerLeaves", inPlace := ["internal/bytealg.abigen_runtime_cmpstring"], unfollowed := true, recurses := true, named := ["hustings/power.names"], loops := true, apart := false, laid := [("hustings/power.names", laid_hustings_power_names)] }
def PowerLeavesSaid : Prop := powerLeavesRow.holds Tryd.pinned (OpenSpec.ofChange powerLeavesSpec)

/-- ITS FALSE NEIGHBOUR: 'it returns false'. Refute it at one input. -/
def powerLeavesWrong : ChangeSpec := { name := "powerLeaves", fn := fun _ => fun
  | [d1, d2, d3, d4] => { results := [.lit (.bool false)], args := [d1, d2, d3, d4] }
  | _ => none }
def PowerLeavesWrongFalsely : Prop := powerLeavesRow.holds Tryd.pinned (OpenSpec.ofChange powerLeavesWrong)

/-- 'hustingslaw14.PowerNull': WHATEVER THE INPUT: true; the input reads as it did. -/
def powerNullSpec : ChangeSpec := { name := "powerNull", fn := fun _ => fun
  | [d1, d2, d3, d4] => { results := [.lit (.bool true)], args := [d1, d2, d3, d4] }
  | _ => none }
def powerNullRow : OpenClaim := { program := "ytjpiofbedglagaadoor", sum := "e6eba2306fc54425b650ee70a47c607a0f37978c36ad79a651515dc69dd736dc", func := "hustings/hustingslaw14.PowerNull", spec := "powerNull", inPlace := ["internal/bytealg.abigen_runtime_cmpstring"], unfollowed := true, recurses := true, named := ["hustings/power.names"], apart := false, laid := [("hustings/power.names", laid_hustings_power_names)] }
def PowerNullSaid : Prop := powerNullRow.holds Tryd.pinned (OpenSpec.ofChange powerNullSpec)

/-- ITS FALSE NEIGHBOUR: 'it returns false'. Refute it at one input. -/
def powerNullWrong : ChangeSpec := { name := "powerNull", fn := fun _ => fun
  | [d1, d2, d3, d4] => { results := [.lit (.bool false)], args := [d1, d2, d3, d4] }
  | _ => none }
def PowerNullWrongFalsely : Prop := powerNullRow.holds Tryd.pinned (OpenSpec.ofChange powerNullWrong)

/- THE SECOND FORM. 'bulk': how many values and letters a reading holds, each counted each time it is reached (what is shared counts as often as it is met; a slice's spare places count too). A statement '..UptoSaid' is the law's where the arguments, and the package variables that the reading takes, are together of bulk at most 1048576: NARROWER than '..Said'. Prove '..Said' where nothing that the law and all that it calls make is longer than what came in: it says more and counts as full. Else prove '..UptoSaid'. A law counts once. -/
mutual
def uptoBulk {H : Type} : DataW H → Nat
  | .lit (.string bytes) => bytes.length + 1
  | .lit _ => 1
  | .nil => 1
  | .ptr d => uptoBulk d + 1
  | .slice elems spare => uptoBulkAll elems + uptoBulkAll spare + 1
  | .agg parts => uptoBulkAll parts + 1
  | .iface _ d => uptoBulk d + 1
  | .map entries => uptoBulkEntries entries + 1
  | .held _ => 1
def uptoBulkAll {H : Type} : List (DataW H) → Nat
  | [] => 0
  | d :: r => uptoBulk d + uptoBulkAll r
def uptoBulkEntries {H : Type} : List (Lit × DataW H) → Nat
  | [] => 0
  | x :: r => uptoBulkEntry x + uptoBulkEntries r
def uptoBulkEntry {H : Type} : Lit × DataW H → Nat
  | (.string bytes, d) => bytes.length + uptoBulk d + 1
  | (_, d) => uptoBulk d + 1
 end
def uptoSmall : (H : Type) → List (DataW H) → Bool := fun _ ds => decide (uptoBulkAll ds ≤ 1048576)
def OpenSpec.upto (s : _root_.Go.ChangeSpec) : _root_.Go.OpenSpec := { _root_.Go.OpenSpec.ofChange s with cond := some uptoSmall }

/-- 'hustingslaw14.PowerLevels', WHERE WHAT IT READS IS OF BULK AT MOST 1048576: true; the input reads as it did. -/
def powerLevelsUptoRow : OpenClaim := { program := "ytjpiofbedglagaadoor", sum := "e6eba2306fc54425b650ee70a47c607a0f37978c36ad79a651515dc69dd736dc", func := "hustings/hustingslaw14.PowerLevels", spec := "powerLevels", inPlace := ["internal/bytealg.abigen_runtime_cmpstring"], unfollowed := true, recurses := true, named := ["hustings/power.names"], loops := true, apart := false, laid := [("hustings/power.names", laid_hustings_power_names)], narrowed := true }
def PowerLevelsUptoSaid : Prop := powerLevelsUptoRow.holds Tryd.pinned (OpenSpec.upto powerLevelsSpec)

/-- 'hustingslaw14.PowerUsers', WHERE WHAT IT READS IS OF BULK AT MOST 1048576: true; the input reads as it did. -/
def powerUsersUptoRow : OpenClaim := { program := "ytjpiofbedglagaadoor", sum := "e6eba2306fc54425b650ee70a47c607a0f37978c36ad79a651515dc69dd736dc", func := "hustings/hustingslaw14.PowerUsers", spec := "powerUsers", inPlace := ["internal/bytealg.abigen_runtime_cmpstring"], unfollowed := true, recurses := true, named := ["hustings/power.names"], loops := true, apart := false, laid := [("hustings/power.names", laid_hustings_power_names)], narrowed := true }
def PowerUsersUptoSaid : Prop := powerUsersUptoRow.holds Tryd.pinned (OpenSpec.upto powerUsersSpec)

/-- 'hustingslaw14.PowerSends', WHERE WHAT IT READS IS OF BULK AT MOST 1048576: true; the input reads as it did. -/
def powerSendsUptoRow : OpenClaim := { program := "ytjpiofbedglagaadoor", sum := "e6eba2306fc54425b650ee70a47c607a0f37978c36ad79a651515dc69dd736dc", func := "hustings/hustingslaw14.PowerSends", spec := "powerSends", inPlace := ["internal/bytealg.abigen_runtime_cmpstring"], unfollowed := true, recurses := true, named := ["hustings/power.names"], loops := true, apart := false, laid := [("hustings/power.names", laid_hustings_power_names)], narrowed := true }
def PowerSendsUptoSaid : Prop := powerSendsUptoRow.holds Tryd.pinned (OpenSpec.upto powerSendsSpec)

/-- 'hustingslaw14.PowerChanges', WHERE WHAT IT READS IS OF BULK AT MOST 1048576: true; the input reads as it did. -/
def powerChangesUptoRow : OpenClaim := { program := "ytjpiofbedglagaadoor", sum := "e6eba2306fc54425b650ee70a47c607a0f37978c36ad79a651515dc69dd736dc", func := "hustings/hustingslaw14.PowerChanges", spec := "powerChanges", inPlace := ["internal/bytealg.abigen_runtime_cmpstring"], unfollowed := true, recurses := true, named := ["hustings/power.names"], loops := true, apart := false, laid := [("hustings/power.names", laid_hustings_power_names)], narrowed := true }
def PowerChangesUptoSaid : Prop := powerChangesUptoRow.holds Tryd.pinned (OpenSpec.upto powerChangesSpec)

/-- 'hustingslaw14.PowerBounds', WHERE WHAT IT READS IS OF BULK AT MOST 1048576: true; the input reads as it did. -/
def powerBoundsUptoRow : OpenClaim := { program := "ytjpiofbedglagaadoor", sum := "e6eba2306fc54425b650ee70a47c607a0f37978c36ad79a651515dc69dd736dc", func := "hustings/hustingslaw14.PowerBounds", spec := "powerBounds", inPlace := ["internal/bytealg.abigen_runtime_cmpstring"], unfollowed := true, recurses := true, named := ["hustings/power.names"], loops := true, apart := false, laid := [("hustings/power.names", laid_hustings_power_names)], narrowed := true }
def PowerBoundsUptoSaid : Prop := powerBoundsUptoRow.holds Tryd.pinned (OpenSpec.upto powerBoundsSpec)

/-- 'hustingslaw14.PowerLeaves', WHERE WHAT IT READS IS OF BULK AT MOST 1048576: true; the input reads as it did. -/
def powerLeavesUptoRow : OpenClaim := { program := "ytjpiofbedglagaadoor", sum := "e6eba2306fc54425b650ee70a47c607a0f37978c36ad79a651515dc69dd736dc", func := "hustings/hustingslaw14.PowerLeaves", spec := "powerLeaves", inPlace := ["internal/bytealg.abigen_runtime_cmpstring"], unfollowed := true, recurses := true, named := ["hustings/power.names"], loops := true, apart := false, laid := [("hustings/power.names", laid_hustings_power_names)], narrowed := true }
def PowerLeavesUptoSaid : Prop := powerLeavesUptoRow.holds Tryd.pinned (OpenSpec.upto powerLeavesSpec)

/-- 'hustingslaw14.PowerNull', WHERE WHAT IT READS IS OF BULK AT MOST 1048576: true; the input reads as it did. -/
def powerNullUptoRow : OpenClaim := { program := "ytjpiofbedglagaadoor", sum := "e6eba2306fc54425b650ee70a47c607a0f37978c36ad79a651515dc69dd736dc", func := "hustings/hustingslaw14.PowerNull", spec := "powerNull", inPlace := ["internal/bytealg.abigen_runtime_cmpstring"], unfollowed := true, recurses := true, named := ["hustings/power.names"], apart := false, laid := [("hustings/power.names", laid_hustings_power_names)], narrowed := true }
def PowerNullUptoSaid : Prop := powerNullUptoRow.holds Tryd.pinned (OpenSpec.upto powerNullSpec)

end Rows
end Go.Proofs.YtjpiofbedglagaaDoor
