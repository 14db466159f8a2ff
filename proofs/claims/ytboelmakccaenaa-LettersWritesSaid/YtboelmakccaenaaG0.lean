-- Written by wip/tools/myprint.py of this session, over the kit's printer. Not trusted: Lean checks it.
import Derived.Test.YtboelmakccaenaaProg
import Derived.Below
import Derived.Deep.Draws
import Derived.Deep.AppendLies
import Derived.Maps.AppendAt
import Derived.OwnWalk
import Derived.Laws.BytesArg
import Derived.Laws.MakeOwn
import Derived.Laws.OwnMore
import Derived.Deep.OwnRows
import Derived.Tactics
import Derived.Lib.ConvBytes
import Derived.Laws.Slices
import Derived.WalkKit
import Derived.KernelRfl
import Derived.RowKit3
import Derived.Deep.LoopGhost
import Derived.Deep.QuietTactic
import Derived.BigQuiet
import Derived.WideLaws
import Derived.Deep.DeepCutAuto
import Derived.Deep.CutBlock
import Derived.Deep.RegionHeld3
import Derived.Laws.Rows
import Derived.Lib.AppendStr
import Derived.ArgAppend
import Derived.Laws.IdiomCopy
import Derived.OrdersHeld
import Derived.Laws.BitsLemmas
import Derived.RowKit
import Derived.Test.YtboelmakccaenaaWWords
import Derived.Test.YtboelmakccaenaaWLast
import Derived.Test.YtboelmakccaenaaWTab
import Derived.Test.YtboelmakccaenaaWFour
import Derived.Test.YtboelmakccaenaaWQPut
import Derived.Test.YtboelmakccaenaaWApart
import Derived.Test.YtboelmakccaenaaWArr
import Derived.Test.YtboelmakccaenaaWZeros
import Derived.Test.YtboelmakccaenaaWFoot
import Derived.Test.YtboelmakccaenaaWKept
import Derived.Test.YtboelmakccaenaaWShare
import Derived.Test.YtboelmakccaenaaWN
import Derived.Test.YtboelmakccaenaaWFootNe
import Derived.Test.YtboelmakccaenaaWAt
import Derived.Test.YtboelmakccaenaaWEqStruct
import Derived.Test.YtboelmakccaenaaWRepsOne
import Derived.Test.YtboelmakccaenaaWInv
import Derived.Test.YtboelmakccaenaaWInvWords
import Derived.Test.YtboelmakccaenaaWGuard
import Derived.Test.YtboelmakccaenaaWNEv
import Derived.Test.YtboelmakccaenaaWMore
namespace Go.Proofs.Ytboelmakccaenaa.P
open Go.RowKit Go.Proofs.YtboelmakccaenaaW.PrintWords Go.Proofs.YtboelmakccaenaaW.PrintLast Go.Proofs.YtboelmakccaenaaW.PrintMore
attribute [local go_sem] max2_int min2_int max_two min_two max_three min_three max_four min_four   -- for this text's walks alone
set_option linter.unusedVariables false
set_option linter.unusedSimpArgs false



def errW : Option Int → Value
  | none => .nilIface
  | some c => .iface 0 (.int .i64 c)
theorem errW_none : errW none = .nilIface := rfl
theorem errW_some (c : Int) : errW (some c) = .iface 0 (.int .i64 c) := rfl

theorem info5 : (Try.prog.info? 5).map (fun i => (i.zero, i.size, i.bytes)) = some (some (.int .u8 0), 1, 1) := by kernel_rfl
-- the values' own types

end Go.Proofs.Ytboelmakccaenaa.P
