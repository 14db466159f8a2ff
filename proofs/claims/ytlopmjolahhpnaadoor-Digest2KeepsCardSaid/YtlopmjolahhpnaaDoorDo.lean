/- The rounds' table, out of the row's condition. -/
import Derived.Test.YtlopmjolahhpnaaDoorDc
import Derived.Lib.LaidTab
import Derived.LaidMore
import Derived.Test.YtlopmjolahhpnaaDoorRows
namespace Go.Proofs.YtlopmjolahhpnaaDoor.P
open Go.ChangeShapes Go.WideShapes
theorem gTab : Tryd.prog.globalNamed "hustings/digest2.table" = some 0 := by kernel_rfl
theorem tTab : (Tryd.prog.globals[(0 : Nat)]?).map (·.type) = some 48 := by kernel_rfl
theorem cellsT80 : Tryd.prog.cellsOf 48 = 80 := by kernel_rfl
theorem cellsT64 : Tryd.prog.cellsOf 36 = 1 := by kernel_rfl
theorem tab_of {W : World} (h : laidMetH Tryd.prog [("hustings/digest2.table", Rows.laid_hustings_digest2_table)] W) : Tab W := by
  rw [MakeChecks.laidMetH_plain _ _ _ (by kernel_rfl)] at h
  have hT : Lib.TabIs Tryd.prog W "hustings/digest2.table" .u64 kList := Lib.tabIs_of_head gTab tTab Tryd.underlying48 Tryd.underlying36 cellsT64 cellsT80 h
  intro j hj
  exact hT.cell gTab j (by simpa [kList] using hj)
end Go.Proofs.YtlopmjolahhpnaaDoor.P
