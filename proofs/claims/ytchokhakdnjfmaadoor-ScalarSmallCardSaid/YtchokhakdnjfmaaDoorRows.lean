/-
  NARROWER THAN 'FOR EVERY INPUT', by the rows' own cells (each row's printed sentence says how): ScalarRests: laid · ScalarGood: laid · ScalarKeeps: laid · ScalarSmall: laid · ScalarMuls: laid · ScalarLaws: laid.
  DERIVED. THE GIVEN ROWS OF THIS SEAT. 6 by the template 'for every input the law returns true; each argument reads behind the call as it read before'; 0 by the template 'total and deterministic' (their statements: YtchokhakdnjfmaaDoorTotals.lean).
  GIVEN WITH THE SEED: the statements are not yours to turn. If you find one false, say at which input.
  Laid BY PROGRAM, IN A SANDBOX (cutbox-rows.mjs): the forced cells as the released guide's own fill.sh prints them over the translation f62c853b29bea568… (all of the seat's roots in one cut). By AI agents, Wed Nov 11 2026. No macro, syntax, notation, axiom, sorry.
-/
import Derived.Test.YtchokhakdnjfmaaDoorChecked
import GoSem.Claim
import GoSem.ClaimJoined
import GoSem.ClaimMapViews
import Derived.JoinedTies
import Derived.KernelRfl
namespace Go.Proofs.YtchokhakdnjfmaaDoor
/- THE CELL 'sum', in the pinned program and in every row, IS THE sha256 OF THE DUMP (.gsa) THAT YtchokhakdnjfmaaDoorProg.lean LOADS. Nothing in Lean hashes anything: it is a label: what it is worth is what the hold of that sum in a sandbox is worth. -/
noncomputable def Tryd.pinned : Pinned := { name := "ytchokhakdnjfmaadoor", sum := "f62c853b29bea568b750b3e998a028e042045f4f0f5b61abfe11a77505fb3233", checked := Tryd.checked }
namespace Rows
def none {H : Type} : Left H := { results := [], args := [] }

/- WHAT THE LISTED PACKAGE-LEVEL VARIABLES READ AS WHEN THE CALL BEGINS. Each datum BY PROGRAM (the guide's laid-datum.mjs) off the statement by which the dump's own 'gosem.cut.vars' lays the variable. In a bare row this is a premise. The card (YtchokhakdnjfmaaDoorCards.lean) ties it to the program's text. -/
def laid_hustings_scalar_order {H : Type} : DataW H := .agg [.lit (.int .u64 6346243789798364141), .lit (.int .u64 1503914060200516822), .lit (.int .u64 0), .lit (.int .u64 1152921504606846976), .lit (.int .u64 0)]

/-- 'hustingslaw05.ScalarRests': WHATEVER THE INPUT: true; the input reads as it did. -/
def scalarRestsSpec : ChangeSpec := { name := "scalarRests", fn := fun _ => fun
  | [d] => { results := [.lit (.bool true)], args := [d] }
  | _ => none }
def scalarRestsRow : OpenClaim := { program := "ytchokhakdnjfmaadoor", sum := "f62c853b29bea568b750b3e998a028e042045f4f0f5b61abfe11a77505fb3233", func := "hustings/hustingslaw05.ScalarRests", spec := "scalarRests", inPlace := ["math/bits.Add64", "math/bits.Sub64"], unfollowed := true, recurses := true, named := ["hustings/scalar.order"], apart := false, laid := [("hustings/scalar.order", laid_hustings_scalar_order)] }
def ScalarRestsSaid : Prop := scalarRestsRow.holds Tryd.pinned (OpenSpec.ofChange scalarRestsSpec)

/-- ITS FALSE NEIGHBOUR: 'it returns false'. Refute it at one input. -/
def scalarRestsWrong : ChangeSpec := { name := "scalarRests", fn := fun _ => fun
  | [d] => { results := [.lit (.bool false)], args := [d] }
  | _ => none }
def ScalarRestsWrongFalsely : Prop := scalarRestsRow.holds Tryd.pinned (OpenSpec.ofChange scalarRestsWrong)

/-- 'hustingslaw05.ScalarGood': WHATEVER THE INPUT: true; the input reads as it did. -/
def scalarGoodSpec : ChangeSpec := { name := "scalarGood", fn := fun _ => fun
  | [d] => { results := [.lit (.bool true)], args := [d] }
  | _ => none }
def scalarGoodRow : OpenClaim := { program := "ytchokhakdnjfmaadoor", sum := "f62c853b29bea568b750b3e998a028e042045f4f0f5b61abfe11a77505fb3233", func := "hustings/hustingslaw05.ScalarGood", spec := "scalarGood", inPlace := ["math/bits.Add64", "math/bits.Sub64"], unfollowed := true, recurses := true, named := ["hustings/scalar.order"], apart := false, laid := [("hustings/scalar.order", laid_hustings_scalar_order)] }
def ScalarGoodSaid : Prop := scalarGoodRow.holds Tryd.pinned (OpenSpec.ofChange scalarGoodSpec)

/-- ITS FALSE NEIGHBOUR: 'it returns false'. Refute it at one input. -/
def scalarGoodWrong : ChangeSpec := { name := "scalarGood", fn := fun _ => fun
  | [d] => { results := [.lit (.bool false)], args := [d] }
  | _ => none }
def ScalarGoodWrongFalsely : Prop := scalarGoodRow.holds Tryd.pinned (OpenSpec.ofChange scalarGoodWrong)

/-- 'hustingslaw05.ScalarKeeps': WHATEVER THE INPUT: true; the input reads as it did. -/
def scalarKeepsSpec : ChangeSpec := { name := "scalarKeeps", fn := fun _ => fun
  | [d1, d2] => { results := [.lit (.bool true)], args := [d1, d2] }
  | _ => none }
def scalarKeepsRow : OpenClaim := { program := "ytchokhakdnjfmaadoor", sum := "f62c853b29bea568b750b3e998a028e042045f4f0f5b61abfe11a77505fb3233", func := "hustings/hustingslaw05.ScalarKeeps", spec := "scalarKeeps", inPlace := ["math/bits.Add64", "math/bits.Sub64"], unfollowed := true, recurses := true, named := ["hustings/scalar.order"], apart := false, laid := [("hustings/scalar.order", laid_hustings_scalar_order)] }
def ScalarKeepsSaid : Prop := scalarKeepsRow.holds Tryd.pinned (OpenSpec.ofChange scalarKeepsSpec)

/-- ITS FALSE NEIGHBOUR: 'it returns false'. Refute it at one input. -/
def scalarKeepsWrong : ChangeSpec := { name := "scalarKeeps", fn := fun _ => fun
  | [d1, d2] => { results := [.lit (.bool false)], args := [d1, d2] }
  | _ => none }
def ScalarKeepsWrongFalsely : Prop := scalarKeepsRow.holds Tryd.pinned (OpenSpec.ofChange scalarKeepsWrong)

/-- 'hustingslaw05.ScalarSmall': WHATEVER THE INPUT: true; the input reads as it did. -/
def scalarSmallSpec : ChangeSpec := { name := "scalarSmall", fn := fun _ => fun
  | [d1, d2, d3] => { results := [.lit (.bool true)], args := [d1, d2, d3] }
  | _ => none }
def scalarSmallRow : OpenClaim := { program := "ytchokhakdnjfmaadoor", sum := "f62c853b29bea568b750b3e998a028e042045f4f0f5b61abfe11a77505fb3233", func := "hustings/hustingslaw05.ScalarSmall", spec := "scalarSmall", inPlace := ["math/bits.Add64", "math/bits.Sub64"], unfollowed := true, recurses := true, named := ["hustings/scalar.order"], apart := false, laid := [("hustings/scalar.order", laid_hustings_scalar_order)] }
def ScalarSmallSaid : Prop := scalarSmallRow.holds Tryd.pinned (OpenSpec.ofChange scalarSmallSpec)

/-- ITS FALSE NEIGHBOUR: 'it returns false'. Refute it at one input. -/
def scalarSmallWrong : ChangeSpec := { name := "scalarSmall", fn := fun _ => fun
  | [d1, d2, d3] => { results := [.lit (.bool false)], args := [d1, d2, d3] }
  | _ => none }
def ScalarSmallWrongFalsely : Prop := scalarSmallRow.holds Tryd.pinned (OpenSpec.ofChange scalarSmallWrong)

/-- 'hustingslaw05.ScalarMuls': WHATEVER THE INPUT: true; the input reads as it did. -/
def scalarMulsSpec : ChangeSpec := { name := "scalarMuls", fn := fun _ => fun
  | [d1, d2, d3] => { results := [.lit (.bool true)], args := [d1, d2, d3] }
  | _ => none }
def scalarMulsRow : OpenClaim := { program := "ytchokhakdnjfmaadoor", sum := "f62c853b29bea568b750b3e998a028e042045f4f0f5b61abfe11a77505fb3233", func := "hustings/hustingslaw05.ScalarMuls", spec := "scalarMuls", inPlace := ["math/bits.Add64", "math/bits.Sub64"], unfollowed := true, recurses := true, named := ["hustings/scalar.order"], apart := false, laid := [("hustings/scalar.order", laid_hustings_scalar_order)] }
def ScalarMulsSaid : Prop := scalarMulsRow.holds Tryd.pinned (OpenSpec.ofChange scalarMulsSpec)

/-- ITS FALSE NEIGHBOUR: 'it returns false'. Refute it at one input. -/
def scalarMulsWrong : ChangeSpec := { name := "scalarMuls", fn := fun _ => fun
  | [d1, d2, d3] => { results := [.lit (.bool false)], args := [d1, d2, d3] }
  | _ => none }
def ScalarMulsWrongFalsely : Prop := scalarMulsRow.holds Tryd.pinned (OpenSpec.ofChange scalarMulsWrong)

/-- 'hustingslaw05.ScalarLaws': WHATEVER THE INPUT: true; the input reads as it did. -/
def scalarLawsSpec : ChangeSpec := { name := "scalarLaws", fn := fun _ => fun
  | [d1, d2, d3] => { results := [.lit (.bool true)], args := [d1, d2, d3] }
  | _ => none }
def scalarLawsRow : OpenClaim := { program := "ytchokhakdnjfmaadoor", sum := "f62c853b29bea568b750b3e998a028e042045f4f0f5b61abfe11a77505fb3233", func := "hustings/hustingslaw05.ScalarLaws", spec := "scalarLaws", inPlace := ["math/bits.Add64", "math/bits.Sub64"], unfollowed := true, recurses := true, named := ["hustings/scalar.order"], apart := false, laid := [("hustings/scalar.order", laid_hustings_scalar_order)] }
def ScalarLawsSaid : Prop := scalarLawsRow.holds Tryd.pinned (OpenSpec.ofChange scalarLawsSpec)

/-- ITS FALSE NEIGHBOUR: 'it returns false'. Refute it at one input. -/
def scalarLawsWrong : ChangeSpec := { name := "scalarLaws", fn := fun _ => fun
  | [d1, d2, d3] => { results := [.lit (.bool false)], args := [d1, d2, d3] }
  | _ => none }
def ScalarLawsWrongFalsely : Prop := scalarLawsRow.holds Tryd.pinned (OpenSpec.ofChange scalarLawsWrong)

/- THE SECOND FORM. 'bulk': how many values and letters a reading holds, each counted each time it is reached (what is shared counts as often as it is met; a slice's spare places count too). A statement '..UptoSaid' is the law's where the arguments, and the package variables that the reading takes, are together of bulk at most 1048576: NARROWER than '..Said'. Prove '..Said' where nothing that the law and all that it calls make is longer than what came in: it says more and counts as full. Else prove '..UptoSaid'. A law counts once. -/
mutual
def uptoBulk {H : Type} : DataW H → Nat
  | .lit (.string bytes) => bytes.length + 1
  | .lit _ => 1
  | .nil => 1
  | .ptr d => uptoBulk d + 1
  | .slice elems spare => uptoBulkAll elems + uptoBulkAll spare + 1
  | .agg parts => uptoBulkAll parts + 1
  | .iface _ d => uptoBulk d + 1
  | .map entries => uptoBulkEntries entries + 1
  | .held _ => 1
def uptoBulkAll {H : Type} : List (DataW H) → Nat
  | [] => 0
  | d :: r => uptoBulk d + uptoBulkAll r
def uptoBulkEntries {H : Type} : List (Lit × DataW H) → Nat
  | [] => 0
  | x :: r => uptoBulkEntry x + uptoBulkEntries r
def uptoBulkEntry {H : Type} : Lit × DataW H → Nat
  | (.string bytes, d) => bytes.length + uptoBulk d + 1
  | (_, d) => uptoBulk d + 1
 end
def uptoSmall : (H : Type) → List (DataW H) → Bool := fun _ ds => decide (uptoBulkAll ds ≤ 1048576)
def OpenSpec.upto (s : _root_.Go.ChangeSpec) : _root_.Go.OpenSpec := { _root_.Go.OpenSpec.ofChange s with cond := some uptoSmall }

/-- 'hustingslaw05.ScalarRests', WHERE WHAT IT READS IS OF BULK AT MOST 1048576: true; the input reads as it did. -/
def scalarRestsUptoRow : OpenClaim := { program := "ytchokhakdnjfmaadoor", sum := "f62c853b29bea568b750b3e998a028e042045f4f0f5b61abfe11a77505fb3233", func := "hustings/hustingslaw05.ScalarRests", spec := "scalarRests", inPlace := ["math/bits.Add64", "math/bits.Sub64"], unfollowed := true, recurses := true, named := ["hustings/scalar.order"], apart := false, laid := [("hustings/scalar.order", laid_hustings_scalar_order)], narrowed := true }
def ScalarRestsUptoSaid : Prop := scalarRestsUptoRow.holds Tryd.pinned (OpenSpec.upto scalarRestsSpec)

/-- 'hustingslaw05.ScalarGood', WHERE WHAT IT READS IS OF BULK AT MOST 1048576: true; the input reads as it did. -/
def scalarGoodUptoRow : OpenClaim := { program := "ytchokhakdnjfmaadoor", sum := "f62c853b29bea568b750b3e998a028e042045f4f0f5b61abfe11a77505fb3233", func := "hustings/hustingslaw05.ScalarGood", spec := "scalarGood", inPlace := ["math/bits.Add64", "math/bits.Sub64"], unfollowed := true, recurses := true, named := ["hustings/scalar.order"], apart := false, laid := [("hustings/scalar.order", laid_hustings_scalar_order)], narrowed := true }
def ScalarGoodUptoSaid : Prop := scalarGoodUptoRow.holds Tryd.pinned (OpenSpec.upto scalarGoodSpec)

/-- 'hustingslaw05.ScalarKeeps', WHERE WHAT IT READS IS OF BULK AT MOST 1048576: true; the input reads as it did. -/
def scalarKeepsUptoRow : OpenClaim := { program := "ytchokhakdnjfmaadoor", sum := "f62c853b29bea568b750b3e998a028e042045f4f0f5b61abfe11a77505fb3233", func := "hustings/hustingslaw05.ScalarKeeps", spec := "scalarKeeps", inPlace := ["math/bits.Add64", "math/bits.Sub64"], unfollowed := true, recurses := true, named := ["hustings/scalar.order"], apart := false, laid := [("hustings/scalar.order", laid_hustings_scalar_order)], narrowed := true }
def ScalarKeepsUptoSaid : Prop := scalarKeepsUptoRow.holds Tryd.pinned (OpenSpec.upto scalarKeepsSpec)

/-- 'hustingslaw05.ScalarSmall', WHERE WHAT IT READS IS OF BULK AT MOST 1048576: true; the input reads as it did. -/
def scalarSmallUptoRow : OpenClaim := { program := "ytchokhakdnjfmaadoor", sum := "f62c853b29bea568b750b3e998a028e042045f4f0f5b61abfe11a77505fb3233", func := "hustings/hustingslaw05.ScalarSmall", spec := "scalarSmall", inPlace := ["math/bits.Add64", "math/bits.Sub64"], unfollowed := true, recurses := true, named := ["hustings/scalar.order"], apart := false, laid := [("hustings/scalar.order", laid_hustings_scalar_order)], narrowed := true }
def ScalarSmallUptoSaid : Prop := scalarSmallUptoRow.holds Tryd.pinned (OpenSpec.upto scalarSmallSpec)

/-- 'hustingslaw05.ScalarMuls', WHERE WHAT IT READS IS OF BULK AT MOST 1048576: true; the input reads as it did. -/
def scalarMulsUptoRow : OpenClaim := { program := "ytchokhakdnjfmaadoor", sum := "f62c853b29bea568b750b3e998a028e042045f4f0f5b61abfe11a77505fb3233", func := "hustings/hustingslaw05.ScalarMuls", spec := "scalarMuls", inPlace := ["math/bits.Add64", "math/bits.Sub64"], unfollowed := true, recurses := true, named := ["hustings/scalar.order"], apart := false, laid := [("hustings/scalar.order", laid_hustings_scalar_order)], narrowed := true }
def ScalarMulsUptoSaid : Prop := scalarMulsUptoRow.holds Tryd.pinned (OpenSpec.upto scalarMulsSpec)

/-- 'hustingslaw05.ScalarLaws', WHERE WHAT IT READS IS OF BULK AT MOST 1048576: true; the input reads as it did. -/
def scalarLawsUptoRow : OpenClaim := { program := "ytchokhakdnjfmaadoor", sum := "f62c853b29bea568b750b3e998a028e042045f4f0f5b61abfe11a77505fb3233", func := "hustings/hustingslaw05.ScalarLaws", spec := "scalarLaws", inPlace := ["math/bits.Add64", "math/bits.Sub64"], unfollowed := true, recurses := true, named := ["hustings/scalar.order"], apart := false, laid := [("hustings/scalar.order", laid_hustings_scalar_order)], narrowed := true }
def ScalarLawsUptoSaid : Prop := scalarLawsUptoRow.holds Tryd.pinned (OpenSpec.upto scalarLawsSpec)

end Rows
end Go.Proofs.YtchokhakdnjfmaaDoor
