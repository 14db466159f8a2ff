/- The order's table, out of the row's condition. -/
import Derived.Test.YtchokhakdnjfmaaDoorSc
import Derived.Lib.LaidTab
import Derived.LaidMore
import Derived.Test.YtchokhakdnjfmaaDoorRows
namespace Go.Proofs.YtchokhakdnjfmaaDoor.P
open Go.ChangeShapes Go.WideShapes
theorem gOrd : Tryd.prog.globalNamed "hustings/scalar.order" = some 0 := by kernel_rfl
theorem tOrd : (Tryd.prog.globals[(0 : Nat)]?).map (·.type) = some 40 := by kernel_rfl
theorem cells40 : Tryd.prog.cellsOf 40 = 5 := by kernel_rfl
theorem cells33 : Tryd.prog.cellsOf 33 = 1 := by kernel_rfl
def ordList : List Int := [6346243789798364141, 1503914060200516822, 0, 1152921504606846976, 0]
theorem ord_of {W : World} (h : laidMetH Tryd.prog [("hustings/scalar.order", Rows.laid_hustings_scalar_order)] W) : Ord W := by
  rw [MakeChecks.laidMetH_plain _ _ _ (by kernel_rfl)] at h
  have hT : Lib.TabIs Tryd.prog W "hustings/scalar.order" .u64 ordList := Lib.tabIs_of_head gOrd tOrd Tryd.underlying40 Tryd.underlying33 cells33 cells40 h
  intro j hj
  have hc := hT.cell gOrd j hj
  have e : (⟨0, 0, none⟩ : Addr).add j = ⟨0, j, none⟩ := by
    unfold Addr.add
    split
    · subst_vars; rfl
    · simp
  rw [e, hc]
  have hj2 : j = 0 ∨ j = 1 ∨ j = 2 ∨ j = 3 ∨ j = 4 := by omega
  rcases hj2 with rfl | rfl | rfl | rfl | rfl <;> rfl
end Go.Proofs.YtchokhakdnjfmaaDoor.P
