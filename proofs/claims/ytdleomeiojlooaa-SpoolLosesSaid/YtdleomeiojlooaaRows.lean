/-
  No cell of these rows narrows 'for every input' (looked for: loops, veiled, ifaces, maps, wideKeys, modest, calm, conditions, laid).
  DERIVED. THE GIVEN ROWS OF THIS SEAT. 5 by the template 'for every input the law returns true; each argument reads behind the call as it read before'; 0 by the template 'total and deterministic' (their statements: YtdleomeiojlooaaTotals.lean).
  GIVEN WITH THE SEED: the statements are not yours to turn. If you find one false, say at which input.
  Laid BY PROGRAM, IN A SANDBOX (cutbox-rows.mjs): the forced cells as the released guide's own fill.sh prints them over the translation 669d8133b9a9f8b1… (all of the seat's roots in one cut). By AI agents, Wed Nov 11 2026. No macro, syntax, notation, axiom, sorry.
-/
import Derived.Test.YtdleomeiojlooaaChecked
import GoSem.Claim
import GoSem.ClaimJoined
import GoSem.ClaimMapViews
import Derived.JoinedTies
import Derived.KernelRfl
namespace Go.Proofs.Ytdleomeiojlooaa
/- THE CELL 'sum', in the pinned program and in every row, IS THE sha256 OF THE DUMP (.gsa) THAT YtdleomeiojlooaaProg.lean LOADS. Nothing in Lean hashes anything: it is a label: what it is worth is what the hold of that sum in a sandbox is worth. -/
noncomputable def Try.pinned : Pinned := { name := "ytdleomeiojlooaa", sum := "669d8133b9a9f8b1062fa11ce44d6bea10f5ebcda6a55912e225dc352b2106af", checked := Try.checked }
namespace Rows
def none {H : Type} : Left H := { results := [], args := [] }

/-- 'hustingslaw19.SpoolReads': WHATEVER THE INPUT: true; the input reads as it did. -/
def spoolReadsSpec : ChangeSpec := { name := "spoolReads", fn := fun _ => fun
  | [d] => { results := [.lit (.bool true)], args := [d] }
  | _ => none }
def spoolReadsRow : OpenClaim := { program := "ytdleomeiojlooaa", sum := "669d8133b9a9f8b1062fa11ce44d6bea10f5ebcda6a55912e225dc352b2106af", func := "hustings/hustingslaw19.SpoolReads", spec := "spoolReads", inPlace := ["internal/bytealg.IndexByteString"], unfollowed := true, recurses := true, apart := false }
def SpoolReadsSaid : Prop := spoolReadsRow.holds Try.pinned (OpenSpec.ofChange spoolReadsSpec)

/-- ITS FALSE NEIGHBOUR: 'it returns false'. Refute it at one input. -/
def spoolReadsWrong : ChangeSpec := { name := "spoolReads", fn := fun _ => fun
  | [d] => { results := [.lit (.bool false)], args := [d] }
  | _ => none }
def SpoolReadsWrongFalsely : Prop := spoolReadsRow.holds Try.pinned (OpenSpec.ofChange spoolReadsWrong)

/-- 'hustingslaw19.SpoolLines': WHATEVER THE INPUT: true; the input reads as it did. -/
def spoolLinesSpec : ChangeSpec := { name := "spoolLines", fn := fun _ => fun
  | [d1, d2] => { results := [.lit (.bool true)], args := [d1, d2] }
  | _ => none }
def spoolLinesRow : OpenClaim := { program := "ytdleomeiojlooaa", sum := "669d8133b9a9f8b1062fa11ce44d6bea10f5ebcda6a55912e225dc352b2106af", func := "hustings/hustingslaw19.SpoolLines", spec := "spoolLines", inPlace := ["internal/bytealg.IndexByteString"], unfollowed := true, recurses := true, apart := false }
def SpoolLinesSaid : Prop := spoolLinesRow.holds Try.pinned (OpenSpec.ofChange spoolLinesSpec)

/-- ITS FALSE NEIGHBOUR: 'it returns false'. Refute it at one input. -/
def spoolLinesWrong : ChangeSpec := { name := "spoolLines", fn := fun _ => fun
  | [d1, d2] => { results := [.lit (.bool false)], args := [d1, d2] }
  | _ => none }
def SpoolLinesWrongFalsely : Prop := spoolLinesRow.holds Try.pinned (OpenSpec.ofChange spoolLinesWrong)

/-- 'hustingslaw19.SpoolParts': WHATEVER THE INPUT: true; the input reads as it did. -/
def spoolPartsSpec : ChangeSpec := { name := "spoolParts", fn := fun _ => fun
  | [d1, d2] => { results := [.lit (.bool true)], args := [d1, d2] }
  | _ => none }
def spoolPartsRow : OpenClaim := { program := "ytdleomeiojlooaa", sum := "669d8133b9a9f8b1062fa11ce44d6bea10f5ebcda6a55912e225dc352b2106af", func := "hustings/hustingslaw19.SpoolParts", spec := "spoolParts", inPlace := ["internal/bytealg.IndexByteString"], unfollowed := true, recurses := true, apart := false }
def SpoolPartsSaid : Prop := spoolPartsRow.holds Try.pinned (OpenSpec.ofChange spoolPartsSpec)

/-- ITS FALSE NEIGHBOUR: 'it returns false'. Refute it at one input. -/
def spoolPartsWrong : ChangeSpec := { name := "spoolParts", fn := fun _ => fun
  | [d1, d2] => { results := [.lit (.bool false)], args := [d1, d2] }
  | _ => none }
def SpoolPartsWrongFalsely : Prop := spoolPartsRow.holds Try.pinned (OpenSpec.ofChange spoolPartsWrong)

/-- 'hustingslaw19.SpoolLoses': WHATEVER THE INPUT: true; the input reads as it did. -/
def spoolLosesSpec : ChangeSpec := { name := "spoolLoses", fn := fun _ => fun
  | [d1, d2, d3, d4] => { results := [.lit (.bool true)], args := [d1, d2, d3, d4] }
  | _ => none }
def spoolLosesRow : OpenClaim := { program := "ytdleomeiojlooaa", sum := "669d8133b9a9f8b1062fa11ce44d6bea10f5ebcda6a55912e225dc352b2106af", func := "hustings/hustingslaw19.SpoolLoses", spec := "spoolLoses", inPlace := ["internal/bytealg.IndexByteString"], unfollowed := true, recurses := true, apart := false }
def SpoolLosesSaid : Prop := spoolLosesRow.holds Try.pinned (OpenSpec.ofChange spoolLosesSpec)

/-- ITS FALSE NEIGHBOUR: 'it returns false'. Refute it at one input. -/
def spoolLosesWrong : ChangeSpec := { name := "spoolLoses", fn := fun _ => fun
  | [d1, d2, d3, d4] => { results := [.lit (.bool false)], args := [d1, d2, d3, d4] }
  | _ => none }
def SpoolLosesWrongFalsely : Prop := spoolLosesRow.holds Try.pinned (OpenSpec.ofChange spoolLosesWrong)

/-- 'hustingslaw19.SpoolDoes': WHATEVER THE INPUT: true; the input reads as it did. -/
def spoolDoesSpec : ChangeSpec := { name := "spoolDoes", fn := fun _ => fun
  | [d1, d2] => { results := [.lit (.bool true)], args := [d1, d2] }
  | _ => none }
def spoolDoesRow : OpenClaim := { program := "ytdleomeiojlooaa", sum := "669d8133b9a9f8b1062fa11ce44d6bea10f5ebcda6a55912e225dc352b2106af", func := "hustings/hustingslaw19.SpoolDoes", spec := "spoolDoes", inPlace := ["internal/bytealg.IndexByteString"], unfollowed := true, recurses := true, apart := false }
def SpoolDoesSaid : Prop := spoolDoesRow.holds Try.pinned (OpenSpec.ofChange spoolDoesSpec)

/-- ITS FALSE NEIGHBOUR: 'it returns false'. Refute it at one input. -/
def spoolDoesWrong : ChangeSpec := { name := "spoolDoes", fn := fun _ => fun
  | [d1, d2] => { results := [.lit (.bool false)], args := [d1, d2] }
  | _ => none }
def SpoolDoesWrongFalsely : Prop := spoolDoesRow.holds Try.pinned (OpenSpec.ofChange spoolDoesWrong)

/- THE SECOND FORM. 'bulk': how many values and letters a reading holds, each counted each time it is reached (what is shared counts as often as it is met; a slice's spare places count too). A statement '..UptoSaid' is the law's where the arguments, and the package variables that the reading takes, are together of bulk at most 1048576: NARROWER than '..Said'. Prove '..Said' where nothing that the law and all that it calls make is longer than what came in: it says more and counts as full. Else prove '..UptoSaid'. A law counts once. -/
mutual
def uptoBulk {H : Type} : DataW H → Nat
  | .lit (.string bytes) => bytes.length + 1
  | .lit _ => 1
  | .nil => 1
  | .ptr d => uptoBulk d + 1
  | .slice elems spare => uptoBulkAll elems + uptoBulkAll spare + 1
  | .agg parts => uptoBulkAll parts + 1
  | .iface _ d => uptoBulk d + 1
  | .map entries => uptoBulkEntries entries + 1
  | .held _ => 1
def uptoBulkAll {H : Type} : List (DataW H) → Nat
  | [] => 0
  | d :: r => uptoBulk d + uptoBulkAll r
def uptoBulkEntries {H : Type} : List (Lit × DataW H) → Nat
  | [] => 0
  | x :: r => uptoBulkEntry x + uptoBulkEntries r
def uptoBulkEntry {H : Type} : Lit × DataW H → Nat
  | (.string bytes, d) => bytes.length + uptoBulk d + 1
  | (_, d) => uptoBulk d + 1
 end
def uptoSmall : (H : Type) → List (DataW H) → Bool := fun _ ds => decide (uptoBulkAll ds ≤ 1048576)
def OpenSpec.upto (s : _root_.Go.ChangeSpec) : _root_.Go.OpenSpec := { _root_.Go.OpenSpec.ofChange s with cond := some uptoSmall }

/-- 'hustingslaw19.SpoolReads', WHERE WHAT IT READS IS OF BULK AT MOST 1048576: true; the input reads as it did. -/
def spoolReadsUptoRow : OpenClaim := { program := "ytdleomeiojlooaa", sum := "669d8133b9a9f8b1062fa11ce44d6bea10f5ebcda6a55912e225dc352b2106af", func := "hustings/hustingslaw19.SpoolReads", spec := "spoolReads", inPlace := ["internal/bytealg.IndexByteString"], unfollowed := true, recurses := true, apart := false, narrowed := true }
def SpoolReadsUptoSaid : Prop := spoolReadsUptoRow.holds Try.pinned (OpenSpec.upto spoolReadsSpec)

/-- 'hustingslaw19.SpoolLines', WHERE WHAT IT READS IS OF BULK AT MOST 1048576: true; the input reads as it did. -/
def spoolLinesUptoRow : OpenClaim := { program := "ytdleomeiojlooaa", sum := "669d8133b9a9f8b1062fa11ce44d6bea10f5ebcda6a55912e225dc352b2106af", func := "hustings/hustingslaw19.SpoolLines", spec := "spoolLines", inPlace := ["internal/bytealg.IndexByteString"], unfollowed := true, recurses := true, apart := false, narrowed := true }
def SpoolLinesUptoSaid : Prop := spoolLinesUptoRow.holds Try.pinned (OpenSpec.upto spoolLinesSpec)

/-- 'hustingslaw19.SpoolParts', WHERE WHAT IT READS IS OF BULK AT MOST 1048576: true; the input reads as it did. -/
def spoolPartsUptoRow : OpenClaim := { program := "ytdleomeiojlooaa", sum := "669d8133b9a9f8b1062fa11ce44d6bea10f5ebcda6a55912e225dc352b2106af", func := "hustings/hustingslaw19.SpoolParts", spec := "spoolParts", inPlace := ["internal/bytealg.IndexByteString"], unfollowed := true, recurses := true, apart := false, narrowed := true }
def SpoolPartsUptoSaid : Prop := spoolPartsUptoRow.holds Try.pinned (OpenSpec.upto spoolPartsSpec)

/-- 'hustingslaw19.SpoolLoses', WHERE WHAT IT READS IS OF BULK AT MOST 1048576: true; the input reads as it did. -/
def spoolLosesUptoRow : OpenClaim := { program := "ytdleomeiojlooaa", sum := "669d8133b9a9f8b1062fa11ce44d6bea10f5ebcda6a55912e225dc352b2106af", func := "hustings/hustingslaw19.SpoolLoses", spec := "spoolLoses", inPlace := ["internal/bytealg.IndexByteString"], unfollowed := true, recurses := true, apart := false, narrowed := true }
def SpoolLosesUptoSaid : Prop := spoolLosesUptoRow.holds Try.pinned (OpenSpec.upto spoolLosesSpec)

/-- 'hustingslaw19.SpoolDoes', WHERE WHAT IT READS IS OF BULK AT MOST 1048576: true; the input reads as it did. -/
def spoolDoesUptoRow : OpenClaim := { program := "ytdleomeiojlooaa", sum := "669d8133b9a9f8b1062fa11ce44d6bea10f5ebcda6a55912e225dc352b2106af", func := "hustings/hustingslaw19.SpoolDoes", spec := "spoolDoes", inPlace := ["internal/bytealg.IndexByteString"], unfollowed := true, recurses := true, apart := false, narrowed := true }
def SpoolDoesUptoSaid : Prop := spoolDoesUptoRow.holds Try.pinned (OpenSpec.upto spoolDoesSpec)

end Rows
end Go.Proofs.Ytdleomeiojlooaa
