/-
  NARROWER THAN 'FOR EVERY INPUT', by the rows' own cells (each row's printed sentence says how): CurveDecodes: laid · CurveAdds: laid · CurveLaws: laid · CurveSigns: laid · CurveMuls: laid · CurveTimes: laid · CurveOrder: laid.
  DERIVED. THE GIVEN ROWS OF THIS SEAT. 7 by the template 'for every input the law returns true; each argument reads behind the call as it read before'; 0 by the template 'total and deterministic' (their statements: YtaaipbhfikefaaaDoorTotals.lean).
  GIVEN WITH THE SEED: the statements are not yours to turn. If you find one false, say at which input.
  Laid BY PROGRAM, IN A SANDBOX (cutbox-rows.mjs): the forced cells as the released guide's own fill.sh prints them over the translation 912f72dbdd52ad36… (all of the seat's roots in one cut). By AI agents, Wed Nov 11 2026. No macro, syntax, notation, axiom, sorry.
-/
import Derived.Test.YtaaipbhfikefaaaDoorChecked
import GoSem.Claim
import GoSem.ClaimJoined
import GoSem.ClaimMapViews
import Derived.JoinedTies
import Derived.KernelRfl
namespace Go.Proofs.YtaaipbhfikefaaaDoor
/- THE CELL 'sum', in the pinned program and in every row, IS THE sha256 OF THE DUMP (.gsa) THAT YtaaipbhfikefaaaDoorProg.lean LOADS. Nothing in Lean hashes anything: it is a label: what it is worth is what the hold of that sum in a sandbox is worth. -/
noncomputable def Tryd.pinned : Pinned := { name := "ytaaipbhfikefaaadoor", sum := "912f72dbdd52ad369a80e71edbe80baeb2f5d42fb10c39689ff664ee6a734d50", checked := Tryd.checked }
namespace Rows
def none {H : Type} : Left H := { results := [], args := [] }

/- WHAT THE LISTED PACKAGE-LEVEL VARIABLES READ AS WHEN THE CALL BEGINS. Each datum BY PROGRAM (the guide's laid-datum.mjs) off the statement by which the dump's own 'gosem.cut.vars' lays the variable. In a bare row this is a premise. The card (YtaaipbhfikefaaaDoorCards.lean) ties it to the program's text. -/
def laid_hustings_curve_d {H : Type} : DataW H := .agg [.lit (.int .u8 163), .lit (.int .u8 120), .lit (.int .u8 89), .lit (.int .u8 19), .lit (.int .u8 202), .lit (.int .u8 77), .lit (.int .u8 235), .lit (.int .u8 117), .lit (.int .u8 171), .lit (.int .u8 216), .lit (.int .u8 65), .lit (.int .u8 65), .lit (.int .u8 77), .lit (.int .u8 10), .lit (.int .u8 112), .lit (.int .u8 0), .lit (.int .u8 152), .lit (.int .u8 232), .lit (.int .u8 121), .lit (.int .u8 119), .lit (.int .u8 121), .lit (.int .u8 64), .lit (.int .u8 199), .lit (.int .u8 140), .lit (.int .u8 115), .lit (.int .u8 254), .lit (.int .u8 111), .lit (.int .u8 43), .lit (.int .u8 238), .lit (.int .u8 108), .lit (.int .u8 3), .lit (.int .u8 82)]
def laid_hustings_scalar_order {H : Type} : DataW H := .agg [.lit (.int .u64 6346243789798364141), .lit (.int .u64 1503914060200516822), .lit (.int .u64 0), .lit (.int .u64 1152921504606846976), .lit (.int .u64 0)]

/-- 'hustingslaw06.CurveDecodes': WHATEVER THE INPUT: true; the input reads as it did. -/
def curveDecodesSpec : ChangeSpec := { name := "curveDecodes", fn := fun _ => fun
  | [d] => { results := [.lit (.bool true)], args := [d] }
  | _ => none }
def curveDecodesRow : OpenClaim := { program := "ytaaipbhfikefaaadoor", sum := "912f72dbdd52ad369a80e71edbe80baeb2f5d42fb10c39689ff664ee6a734d50", func := "hustings/hustingslaw06.CurveDecodes", spec := "curveDecodes", inPlace := ["math/bits.Add64"], named := ["hustings/curve.d"], apart := false, laid := [("hustings/curve.d", laid_hustings_curve_d)] }
def CurveDecodesSaid : Prop := curveDecodesRow.holds Tryd.pinned (OpenSpec.ofChange curveDecodesSpec)

/-- ITS FALSE NEIGHBOUR: 'it returns false'. Refute it at one input. -/
def curveDecodesWrong : ChangeSpec := { name := "curveDecodes", fn := fun _ => fun
  | [d] => { results := [.lit (.bool false)], args := [d] }
  | _ => none }
def CurveDecodesWrongFalsely : Prop := curveDecodesRow.holds Tryd.pinned (OpenSpec.ofChange curveDecodesWrong)

/-- 'hustingslaw06.CurveAdds': WHATEVER THE INPUT: true; the input reads as it did. -/
def curveAddsSpec : ChangeSpec := { name := "curveAdds", fn := fun _ => fun
  | [d1, d2] => { results := [.lit (.bool true)], args := [d1, d2] }
  | _ => none }
def curveAddsRow : OpenClaim := { program := "ytaaipbhfikefaaadoor", sum := "912f72dbdd52ad369a80e71edbe80baeb2f5d42fb10c39689ff664ee6a734d50", func := "hustings/hustingslaw06.CurveAdds", spec := "curveAdds", inPlace := ["math/bits.Add64"], named := ["hustings/curve.d"], apart := false, laid := [("hustings/curve.d", laid_hustings_curve_d)] }
def CurveAddsSaid : Prop := curveAddsRow.holds Tryd.pinned (OpenSpec.ofChange curveAddsSpec)

/-- ITS FALSE NEIGHBOUR: 'it returns false'. Refute it at one input. -/
def curveAddsWrong : ChangeSpec := { name := "curveAdds", fn := fun _ => fun
  | [d1, d2] => { results := [.lit (.bool false)], args := [d1, d2] }
  | _ => none }
def CurveAddsWrongFalsely : Prop := curveAddsRow.holds Tryd.pinned (OpenSpec.ofChange curveAddsWrong)

/-- 'hustingslaw06.CurveLaws': WHATEVER THE INPUT: true; the input reads as it did. -/
def curveLawsSpec : ChangeSpec := { name := "curveLaws", fn := fun _ => fun
  | [d1, d2, d3] => { results := [.lit (.bool true)], args := [d1, d2, d3] }
  | _ => none }
def curveLawsRow : OpenClaim := { program := "ytaaipbhfikefaaadoor", sum := "912f72dbdd52ad369a80e71edbe80baeb2f5d42fb10c39689ff664ee6a734d50", func := "hustings/hustingslaw06.CurveLaws", spec := "curveLaws", inPlace := ["math/bits.Add64"], named := ["hustings/curve.d"], apart := false, laid := [("hustings/curve.d", laid_hustings_curve_d)] }
def CurveLawsSaid : Prop := curveLawsRow.holds Tryd.pinned (OpenSpec.ofChange curveLawsSpec)

/-- ITS FALSE NEIGHBOUR: 'it returns false'. Refute it at one input. -/
def curveLawsWrong : ChangeSpec := { name := "curveLaws", fn := fun _ => fun
  | [d1, d2, d3] => { results := [.lit (.bool false)], args := [d1, d2, d3] }
  | _ => none }
def CurveLawsWrongFalsely : Prop := curveLawsRow.holds Tryd.pinned (OpenSpec.ofChange curveLawsWrong)

/-- 'hustingslaw06.CurveSigns': WHATEVER THE INPUT: true; the input reads as it did. -/
def curveSignsSpec : ChangeSpec := { name := "curveSigns", fn := fun _ => fun
  | [d] => { results := [.lit (.bool true)], args := [d] }
  | _ => none }
def curveSignsRow : OpenClaim := { program := "ytaaipbhfikefaaadoor", sum := "912f72dbdd52ad369a80e71edbe80baeb2f5d42fb10c39689ff664ee6a734d50", func := "hustings/hustingslaw06.CurveSigns", spec := "curveSigns", inPlace := ["math/bits.Add64"], named := ["hustings/curve.d"], apart := false, laid := [("hustings/curve.d", laid_hustings_curve_d)] }
def CurveSignsSaid : Prop := curveSignsRow.holds Tryd.pinned (OpenSpec.ofChange curveSignsSpec)

/-- ITS FALSE NEIGHBOUR: 'it returns false'. Refute it at one input. -/
def curveSignsWrong : ChangeSpec := { name := "curveSigns", fn := fun _ => fun
  | [d] => { results := [.lit (.bool false)], args := [d] }
  | _ => none }
def CurveSignsWrongFalsely : Prop := curveSignsRow.holds Tryd.pinned (OpenSpec.ofChange curveSignsWrong)

/-- 'hustingslaw06.CurveMuls': WHATEVER THE INPUT: true; the input reads as it did. -/
def curveMulsSpec : ChangeSpec := { name := "curveMuls", fn := fun _ => fun
  | [d1, d2] => { results := [.lit (.bool true)], args := [d1, d2] }
  | _ => none }
def curveMulsRow : OpenClaim := { program := "ytaaipbhfikefaaadoor", sum := "912f72dbdd52ad369a80e71edbe80baeb2f5d42fb10c39689ff664ee6a734d50", func := "hustings/hustingslaw06.CurveMuls", spec := "curveMuls", inPlace := ["math/bits.Add64"], named := ["hustings/curve.d"], apart := false, laid := [("hustings/curve.d", laid_hustings_curve_d)] }
def CurveMulsSaid : Prop := curveMulsRow.holds Tryd.pinned (OpenSpec.ofChange curveMulsSpec)

/-- ITS FALSE NEIGHBOUR: 'it returns false'. Refute it at one input. -/
def curveMulsWrong : ChangeSpec := { name := "curveMuls", fn := fun _ => fun
  | [d1, d2] => { results := [.lit (.bool false)], args := [d1, d2] }
  | _ => none }
def CurveMulsWrongFalsely : Prop := curveMulsRow.holds Tryd.pinned (OpenSpec.ofChange curveMulsWrong)

/-- 'hustingslaw06.CurveTimes': WHATEVER THE INPUT: true; the input reads as it did. -/
def curveTimesSpec : ChangeSpec := { name := "curveTimes", fn := fun _ => fun
  | [d1, d2, d3] => { results := [.lit (.bool true)], args := [d1, d2, d3] }
  | _ => none }
def curveTimesRow : OpenClaim := { program := "ytaaipbhfikefaaadoor", sum := "912f72dbdd52ad369a80e71edbe80baeb2f5d42fb10c39689ff664ee6a734d50", func := "hustings/hustingslaw06.CurveTimes", spec := "curveTimes", inPlace := ["math/bits.Add64"], named := ["hustings/curve.d"], apart := false, laid := [("hustings/curve.d", laid_hustings_curve_d)] }
def CurveTimesSaid : Prop := curveTimesRow.holds Tryd.pinned (OpenSpec.ofChange curveTimesSpec)

/-- ITS FALSE NEIGHBOUR: 'it returns false'. Refute it at one input. -/
def curveTimesWrong : ChangeSpec := { name := "curveTimes", fn := fun _ => fun
  | [d1, d2, d3] => { results := [.lit (.bool false)], args := [d1, d2, d3] }
  | _ => none }
def CurveTimesWrongFalsely : Prop := curveTimesRow.holds Tryd.pinned (OpenSpec.ofChange curveTimesWrong)

/-- 'hustingslaw06.CurveOrder': WHATEVER THE INPUT: true; the input reads as it did. -/
def curveOrderSpec : ChangeSpec := { name := "curveOrder", fn := fun _ => fun
  | [d1, d2] => { results := [.lit (.bool true)], args := [d1, d2] }
  | _ => none }
def curveOrderRow : OpenClaim := { program := "ytaaipbhfikefaaadoor", sum := "912f72dbdd52ad369a80e71edbe80baeb2f5d42fb10c39689ff664ee6a734d50", func := "hustings/hustingslaw06.CurveOrder", spec := "curveOrder", inPlace := ["math/bits.Add64", "math/bits.Sub64"], unfollowed := true, recurses := true, named := ["hustings/curve.d", "hustings/scalar.order"], apart := false, laid := [("hustings/curve.d", laid_hustings_curve_d), ("hustings/scalar.order", laid_hustings_scalar_order)] }
def CurveOrderSaid : Prop := curveOrderRow.holds Tryd.pinned (OpenSpec.ofChange curveOrderSpec)

/-- ITS FALSE NEIGHBOUR: 'it returns false'. Refute it at one input. -/
def curveOrderWrong : ChangeSpec := { name := "curveOrder", fn := fun _ => fun
  | [d1, d2] => { results := [.lit (.bool false)], args := [d1, d2] }
  | _ => none }
def CurveOrderWrongFalsely : Prop := curveOrderRow.holds Tryd.pinned (OpenSpec.ofChange curveOrderWrong)

/- THE SECOND FORM. 'bulk': how many values and letters a reading holds, each counted each time it is reached (what is shared counts as often as it is met; a slice's spare places count too). A statement '..UptoSaid' is the law's where the arguments, and the package variables that the reading takes, are together of bulk at most 1048576: NARROWER than '..Said'. Prove '..Said' where nothing that the law and all that it calls make is longer than what came in: it says more and counts as full. Else prove '..UptoSaid'. A law counts once. -/
mutual
def uptoBulk {H : Type} : DataW H → Nat
  | .lit (.string bytes) => bytes.length + 1
  | .lit _ => 1
  | .nil => 1
  | .ptr d => uptoBulk d + 1
  | .slice elems spare => uptoBulkAll elems + uptoBulkAll spare + 1
  | .agg parts => uptoBulkAll parts + 1
  | .iface _ d => uptoBulk d + 1
  | .map entries => uptoBulkEntries entries + 1
  | .held _ => 1
def uptoBulkAll {H : Type} : List (DataW H) → Nat
  | [] => 0
  | d :: r => uptoBulk d + uptoBulkAll r
def uptoBulkEntries {H : Type} : List (Lit × DataW H) → Nat
  | [] => 0
  | x :: r => uptoBulkEntry x + uptoBulkEntries r
def uptoBulkEntry {H : Type} : Lit × DataW H → Nat
  | (.string bytes, d) => bytes.length + uptoBulk d + 1
  | (_, d) => uptoBulk d + 1
 end
def uptoSmall : (H : Type) → List (DataW H) → Bool := fun _ ds => decide (uptoBulkAll ds ≤ 1048576)
def OpenSpec.upto (s : _root_.Go.ChangeSpec) : _root_.Go.OpenSpec := { _root_.Go.OpenSpec.ofChange s with cond := some uptoSmall }

/-- 'hustingslaw06.CurveDecodes', WHERE WHAT IT READS IS OF BULK AT MOST 1048576: true; the input reads as it did. -/
def curveDecodesUptoRow : OpenClaim := { program := "ytaaipbhfikefaaadoor", sum := "912f72dbdd52ad369a80e71edbe80baeb2f5d42fb10c39689ff664ee6a734d50", func := "hustings/hustingslaw06.CurveDecodes", spec := "curveDecodes", inPlace := ["math/bits.Add64"], named := ["hustings/curve.d"], apart := false, laid := [("hustings/curve.d", laid_hustings_curve_d)], narrowed := true }
def CurveDecodesUptoSaid : Prop := curveDecodesUptoRow.holds Tryd.pinned (OpenSpec.upto curveDecodesSpec)

/-- 'hustingslaw06.CurveAdds', WHERE WHAT IT READS IS OF BULK AT MOST 1048576: true; the input reads as it did. -/
def curveAddsUptoRow : OpenClaim := { program := "ytaaipbhfikefaaadoor", sum := "912f72dbdd52ad369a80e71edbe80baeb2f5d42fb10c39689ff664ee6a734d50", func := "hustings/hustingslaw06.CurveAdds", spec := "curveAdds", inPlace := ["math/bits.Add64"], named := ["hustings/curve.d"], apart := false, laid := [("hustings/curve.d", laid_hustings_curve_d)], narrowed := true }
def CurveAddsUptoSaid : Prop := curveAddsUptoRow.holds Tryd.pinned (OpenSpec.upto curveAddsSpec)

/-- 'hustingslaw06.CurveLaws', WHERE WHAT IT READS IS OF BULK AT MOST 1048576: true; the input reads as it did. -/
def curveLawsUptoRow : OpenClaim := { program := "ytaaipbhfikefaaadoor", sum := "912f72dbdd52ad369a80e71edbe80baeb2f5d42fb10c39689ff664ee6a734d50", func := "hustings/hustingslaw06.CurveLaws", spec := "curveLaws", inPlace := ["math/bits.Add64"], named := ["hustings/curve.d"], apart := false, laid := [("hustings/curve.d", laid_hustings_curve_d)], narrowed := true }
def CurveLawsUptoSaid : Prop := curveLawsUptoRow.holds Tryd.pinned (OpenSpec.upto curveLawsSpec)

/-- 'hustingslaw06.CurveSigns', WHERE WHAT IT READS IS OF BULK AT MOST 1048576: true; the input reads as it did. -/
def curveSignsUptoRow : OpenClaim := { program := "ytaaipbhfikefaaadoor", sum := "912f72dbdd52ad369a80e71edbe80baeb2f5d42fb10c39689ff664ee6a734d50", func := "hustings/hustingslaw06.CurveSigns", spec := "curveSigns", inPlace := ["math/bits.Add64"], named := ["hustings/curve.d"], apart := false, laid := [("hustings/curve.d", laid_hustings_curve_d)], narrowed := true }
def CurveSignsUptoSaid : Prop := curveSignsUptoRow.holds Tryd.pinned (OpenSpec.upto curveSignsSpec)

/-- 'hustingslaw06.CurveMuls', WHERE WHAT IT READS IS OF BULK AT MOST 1048576: true; the input reads as it did. -/
def curveMulsUptoRow : OpenClaim := { program := "ytaaipbhfikefaaadoor", sum := "912f72dbdd52ad369a80e71edbe80baeb2f5d42fb10c39689ff664ee6a734d50", func := "hustings/hustingslaw06.CurveMuls", spec := "curveMuls", inPlace := ["math/bits.Add64"], named := ["hustings/curve.d"], apart := false, laid := [("hustings/curve.d", laid_hustings_curve_d)], narrowed := true }
def CurveMulsUptoSaid : Prop := curveMulsUptoRow.holds Tryd.pinned (OpenSpec.upto curveMulsSpec)

/-- 'hustingslaw06.CurveTimes', WHERE WHAT IT READS IS OF BULK AT MOST 1048576: true; the input reads as it did. -/
def curveTimesUptoRow : OpenClaim := { program := "ytaaipbhfikefaaadoor", sum := "912f72dbdd52ad369a80e71edbe80baeb2f5d42fb10c39689ff664ee6a734d50", func := "hustings/hustingslaw06.CurveTimes", spec := "curveTimes", inPlace := ["math/bits.Add64"], named := ["hustings/curve.d"], apart := false, laid := [("hustings/curve.d", laid_hustings_curve_d)], narrowed := true }
def CurveTimesUptoSaid : Prop := curveTimesUptoRow.holds Tryd.pinned (OpenSpec.upto curveTimesSpec)

/-- 'hustingslaw06.CurveOrder', WHERE WHAT IT READS IS OF BULK AT MOST 1048576: true; the input reads as it did. -/
def curveOrderUptoRow : OpenClaim := { program := "ytaaipbhfikefaaadoor", sum := "912f72dbdd52ad369a80e71edbe80baeb2f5d42fb10c39689ff664ee6a734d50", func := "hustings/hustingslaw06.CurveOrder", spec := "curveOrder", inPlace := ["math/bits.Add64", "math/bits.Sub64"], unfollowed := true, recurses := true, named := ["hustings/curve.d", "hustings/scalar.order"], apart := false, laid := [("hustings/curve.d", laid_hustings_curve_d), ("hustings/scalar.order", laid_hustings_scalar_order)], narrowed := true }
def CurveOrderUptoSaid : Prop := curveOrderUptoRow.holds Tryd.pinned (OpenSpec.upto curveOrderSpec)

end Rows
end Go.Proofs.YtaaipbhfikefaaaDoor
