/-
  NARROWER THAN 'FOR EVERY INPUT', by the rows' own cells (each row's printed sentence says how): PowerValid: loops, laid.
  DERIVED. THE GIVEN ROWS OF THIS SEAT. 1 by the template 'for every input the law returns true; each argument reads behind the call as it read before'; 0 by the template 'total and deterministic' (their statements: YtlfplmlehbomlaaDoorTotals.lean).
  GIVEN WITH THE SEED: the statements are not yours to turn. If you find one false, say at which input.
  Laid BY PROGRAM, IN A SANDBOX (cutbox-rows.mjs): the forced cells as the released guide's own fill.sh prints them over the translation f2e93ae2f6616ce2… (all of the seat's roots in one cut). By AI agents, Wed Nov 11 2026. No macro, syntax, notation, axiom, sorry.
-/
import Derived.Test.YtlfplmlehbomlaaDoorChecked
import GoSem.Claim
import GoSem.ClaimJoined
import GoSem.ClaimMapViews
import Derived.JoinedTies
import Derived.KernelRfl
namespace Go.Proofs.YtlfplmlehbomlaaDoor
/- THE CELL 'sum', in the pinned program and in every row, IS THE sha256 OF THE DUMP (.gsa) THAT YtlfplmlehbomlaaDoorProg.lean LOADS. Nothing in Lean hashes anything: it is a label: what it is worth is what the hold of that sum in a sandbox is worth. -/
noncomputable def Tryd.pinned : Pinned := { name := "ytlfplmlehbomlaadoor", sum := "f2e93ae2f6616ce242558b1838179416eb6b47abab4e5641e27011e9f0bbe832", checked := Tryd.checked }
namespace Rows
def none {H : Type} : Left H := { results := [], args := [] }

/- WHAT THE LISTED PACKAGE-LEVEL VARIABLES READ AS WHEN THE CALL BEGINS. Each datum BY PROGRAM (the guide's laid-datum.mjs) off the statement by which the dump's own 'gosem.cut.vars' lays the variable. In a bare row this is a premise. The card (YtlfplmlehbomlaaDoorCards.lean) ties it to the program's text. -/
def laid_hustings_power_names {H : Type} : DataW H := .slice [.agg [.lit (.string [98, 97, 110]), .lit (.int .i64 50)], .agg [.lit (.string [101, 118, 101, 110, 116, 115, 95, 100, 101, 102, 97, 117, 108, 116]), .lit (.int .i64 0)], .agg [.lit (.string [105, 110, 118, 105, 116, 101]), .lit (.int .i64 0)], .agg [.lit (.string [107, 105, 99, 107]), .lit (.int .i64 50)], .agg [.lit (.string [114, 101, 100, 97, 99, 116]), .lit (.int .i64 50)], .agg [.lit (.string [115, 116, 97, 116, 101, 95, 100, 101, 102, 97, 117, 108, 116]), .lit (.int .i64 50)], .agg [.lit (.string [117, 115, 101, 114, 115, 95, 100, 101, 102, 97, 117, 108, 116]), .lit (.int .i64 0)]] []

/-- 'hustingslaw14.PowerValid': WHATEVER THE INPUT: true; the input reads as it did. -/
def powerValidSpec : ChangeSpec := { name := "powerValid", fn := fun _ => fun
  | [d] => { results := [.lit (.bool true)], args := [d] }
  | _ => none }
def powerValidRow : OpenClaim := { program := "ytlfplmlehbomlaadoor", sum := "f2e93ae2f6616ce242558b1838179416eb6b47abab4e5641e27011e9f0bbe832", func := "hustings/hustingslaw14.PowerValid", spec := "powerValid", inPlace := ["internal/bytealg.abigen_runtime_cmpstring", "internal/bytealg.IndexByteString", "internal/bytealg.IndexString"], unfollowed := true, recurses := true, named := ["hustings/power.names", "internal/bytealg.MaxLen"], loops := true, apart := false, laid := [("hustings/power.names", laid_hustings_power_names)] }
def PowerValidSaid : Prop := powerValidRow.holds Tryd.pinned (OpenSpec.ofChange powerValidSpec)

/-- ITS FALSE NEIGHBOUR: 'it returns false'. Refute it at one input. -/
def powerValidWrong : ChangeSpec := { name := "powerValid", fn := fun _ => fun
  | [d] => { results := [.lit (.bool false)], args := [d] }
  | _ => none }
def PowerValidWrongFalsely : Prop := powerValidRow.holds Tryd.pinned (OpenSpec.ofChange powerValidWrong)

/- THE SECOND FORM. 'bulk': how many values and letters a reading holds, each counted each time it is reached (what is shared counts as often as it is met; a slice's spare places count too). A statement '..UptoSaid' is the law's where the arguments, and the package variables that the reading takes, are together of bulk at most 1048576: NARROWER than '..Said'. Prove '..Said' where nothing that the law and all that it calls make is longer than what came in: it says more and counts as full. Else prove '..UptoSaid'. A law counts once. -/
mutual
def uptoBulk {H : Type} : DataW H → Nat
  | .lit (.string bytes) => bytes.length + 1
  | .lit _ => 1
  | .nil => 1
  | .ptr d => uptoBulk d + 1
  | .slice elems spare => uptoBulkAll elems + uptoBulkAll spare + 1
  | .agg parts => uptoBulkAll parts + 1
  | .iface _ d => uptoBulk d + 1
  | .map entries => uptoBulkEntries entries + 1
  | .held _ => 1
def uptoBulkAll {H : Type} : List (DataW H) → Nat
  | [] => 0
  | d :: r => uptoBulk d + uptoBulkAll r
def uptoBulkEntries {H : Type} : List (Lit × DataW H) → Nat
  | [] => 0
  | x :: r => uptoBulkEntry x + uptoBulkEntries r
def uptoBulkEntry {H : Type} : Lit × DataW H → Nat
  | (.string bytes, d) => bytes.length + uptoBulk d + 1
  | (_, d) => uptoBulk d + 1
 end
def uptoSmall : (H : Type) → List (DataW H) → Bool := fun _ ds => decide (uptoBulkAll ds ≤ 1048576)
def OpenSpec.upto (s : _root_.Go.ChangeSpec) : _root_.Go.OpenSpec := { _root_.Go.OpenSpec.ofChange s with cond := some uptoSmall }

/-- 'hustingslaw14.PowerValid', WHERE WHAT IT READS IS OF BULK AT MOST 1048576: true; the input reads as it did. -/
def powerValidUptoRow : OpenClaim := { program := "ytlfplmlehbomlaadoor", sum := "f2e93ae2f6616ce242558b1838179416eb6b47abab4e5641e27011e9f0bbe832", func := "hustings/hustingslaw14.PowerValid", spec := "powerValid", inPlace := ["internal/bytealg.abigen_runtime_cmpstring", "internal/bytealg.IndexByteString", "internal/bytealg.IndexString"], unfollowed := true, recurses := true, named := ["hustings/power.names", "internal/bytealg.MaxLen"], loops := true, apart := false, laid := [("hustings/power.names", laid_hustings_power_names)], narrowed := true }
def PowerValidUptoSaid : Prop := powerValidUptoRow.holds Tryd.pinned (OpenSpec.upto powerValidSpec)

end Rows
end Go.Proofs.YtlfplmlehbomlaaDoor
