/- field.Sub by its walk. -/
import Derived.Test.YthonoagpiofojaaF2
namespace Go.Proofs.Ythonoagpiofojaa.P
set_option linter.unusedVariables false
set_option linter.unusedSimpArgs false
open Go.RowKit
attribute [local go_sem] setCell_drewN
/-- The world of the loop behind i rounds. -/
def subW (w : World) (x0 x1 x2 x3 x4 z0 z1 z2 z3 z4 : Int) : Nat → World
  | 0 => ((w.alloc (.cells #[.int .u64 (x0), .int .u64 (x1), .int .u64 (x2), .int .u64 (x3), .int .u64 (x4)] 27)).alloc (.cells #[.int .u64 z0, .int .u64 z1, .int .u64 z2, .int .u64 z3, .int .u64 z4] 27)).alloc (.cells #[.int .u64 0, .int .u64 0, .int .u64 0, .int .u64 0, .int .u64 0] 27)
  | 1 => ((w.alloc (.cells #[.int .u64 (x0 + (9007199254740916 - z0)), .int .u64 (x1), .int .u64 (x2), .int .u64 (x3), .int .u64 (x4)] 27)).alloc (.cells #[.int .u64 z0, .int .u64 z1, .int .u64 z2, .int .u64 z3, .int .u64 z4] 27)).alloc (.cells #[.int .u64 0, .int .u64 0, .int .u64 0, .int .u64 0, .int .u64 0] 27)
  | 2 => ((w.alloc (.cells #[.int .u64 (x0 + (9007199254740916 - z0)), .int .u64 (x1 + (9007199254740988 - z1)), .int .u64 (x2), .int .u64 (x3), .int .u64 (x4)] 27)).alloc (.cells #[.int .u64 z0, .int .u64 z1, .int .u64 z2, .int .u64 z3, .int .u64 z4] 27)).alloc (.cells #[.int .u64 0, .int .u64 0, .int .u64 0, .int .u64 0, .int .u64 0] 27)
  | 3 => ((w.alloc (.cells #[.int .u64 (x0 + (9007199254740916 - z0)), .int .u64 (x1 + (9007199254740988 - z1)), .int .u64 (x2 + (9007199254740988 - z2)), .int .u64 (x3), .int .u64 (x4)] 27)).alloc (.cells #[.int .u64 z0, .int .u64 z1, .int .u64 z2, .int .u64 z3, .int .u64 z4] 27)).alloc (.cells #[.int .u64 0, .int .u64 0, .int .u64 0, .int .u64 0, .int .u64 0] 27)
  | 4 => ((w.alloc (.cells #[.int .u64 (x0 + (9007199254740916 - z0)), .int .u64 (x1 + (9007199254740988 - z1)), .int .u64 (x2 + (9007199254740988 - z2)), .int .u64 (x3 + (9007199254740988 - z3)), .int .u64 (x4)] 27)).alloc (.cells #[.int .u64 z0, .int .u64 z1, .int .u64 z2, .int .u64 z3, .int .u64 z4] 27)).alloc (.cells #[.int .u64 0, .int .u64 0, .int .u64 0, .int .u64 0, .int .u64 0] 27)
  | _ => ((w.alloc (.cells #[.int .u64 (x0 + (9007199254740916 - z0)), .int .u64 (x1 + (9007199254740988 - z1)), .int .u64 (x2 + (9007199254740988 - z2)), .int .u64 (x3 + (9007199254740988 - z3)), .int .u64 (x4 + (9007199254740988 - z4))] 27)).alloc (.cells #[.int .u64 z0, .int .u64 z1, .int .u64 z2, .int .u64 z3, .int .u64 z4] 27)).alloc (.cells #[.int .u64 0, .int .u64 0, .int .u64 0, .int .u64 0, .int .u64 0] 27)
def subRel (w : World) (x0 x1 x2 x3 x4 z0 z1 z2 z3 z4 : Int) (v6 : Value) (wr : World) : Prop :=
  ∃ (i m : Nat), i ≤ 5 ∧ v6 = .int .i64 (i : Int) ∧ wr = (subW w x0 x1 x2 x3 x4 z0 z1 z2 z3 z4 i).drewN m
theorem sub_calls (x0 x1 x2 x3 x4 z0 z1 z2 z3 z4 : Int) (w : World) (hx : ∀ x ∈ [x0, x1, x2, x3, x4], 0 ≤ x ∧ x < 4503599627370496) (hz : ∀ x ∈ [z0, z1, z2, z3, z4], 0 ≤ x ∧ x < 4503599627370496) :
    Calls Try.prog 22 #[E5 x0 x1 x2 x3 x4, E5 z0 z1 z2 z3 z4] w fun e w' => e = .returned (E5t (carriedZ (x0 + (9007199254740916 - z0)) (x1 + (9007199254740988 - z1)) (x2 + (9007199254740988 - z2)) (x3 + (9007199254740988 - z3)) (x4 + (9007199254740988 - z4)))) ∧ Below w.heap.size w w' := by
  have a0 := hx x0 (by simp); have a1 := hx x1 (by simp); have a2 := hx x2 (by simp); have a3 := hx x3 (by simp); have a4 := hx x4 (by simp)
  have b0 := hz z0 (by simp); have b1 := hz z1 (by simp); have b2 := hz z2 (by simp); have b3 := hz z3 (by simp); have b4 := hz z4 (by simp)
  have w00 : IntKind.u64.wrap (9007199254740916 - z0) = 9007199254740916 - z0 := u64w _ (by omega) (by omega)
  have w01 : IntKind.u64.wrap (x0 + (9007199254740916 - z0)) = x0 + (9007199254740916 - z0) := u64w _ (by omega) (by omega)
  have w10 : IntKind.u64.wrap (9007199254740988 - z1) = 9007199254740988 - z1 := u64w _ (by omega) (by omega)
  have w11 : IntKind.u64.wrap (x1 + (9007199254740988 - z1)) = x1 + (9007199254740988 - z1) := u64w _ (by omega) (by omega)
  have w20 : IntKind.u64.wrap (9007199254740988 - z2) = 9007199254740988 - z2 := u64w _ (by omega) (by omega)
  have w21 : IntKind.u64.wrap (x2 + (9007199254740988 - z2)) = x2 + (9007199254740988 - z2) := u64w _ (by omega) (by omega)
  have w30 : IntKind.u64.wrap (9007199254740988 - z3) = 9007199254740988 - z3 := u64w _ (by omega) (by omega)
  have w31 : IntKind.u64.wrap (x3 + (9007199254740988 - z3)) = x3 + (9007199254740988 - z3) := u64w _ (by omega) (by omega)
  have w40 : IntKind.u64.wrap (9007199254740988 - z4) = 9007199254740988 - z4 := u64w _ (by omega) (by omega)
  have w41 : IntKind.u64.wrap (x4 + (9007199254740988 - z4)) = x4 + (9007199254740988 - z4) := u64w _ (by omega) (by omega)
  have HC := Aside0.mk (fun w => carried_b (x0 + (9007199254740916 - z0)) (x1 + (9007199254740988 - z1)) (x2 + (9007199254740988 - z2)) (x3 + (9007199254740988 - z3)) (x4 + (9007199254740988 - z4)) w (by intro x hx; simp only [List.mem_cons, List.not_mem_nil, or_false] at hx; omega))
  clear hx hz a0 a1 a2 a3 a4 b0 b1 b2 b3 b4
  unfold E5
  go_enter Try.func22, Try.ntmps22
  go_wp2
  go_loopw [7] (fun v6 wr => subRel w x0 x1 x2 x3 x4 z0 z1 z2 z3 z4 v6 wr) (fun v _ => 5 - (intOf v).toNat)
  case atStart => exact ⟨0, 0, by omega, rfl, rfl⟩
  case round =>
    obtain ⟨i, m, hi, rfl, rfl⟩ := hrel
    have hc : i = 0 ∨ i = 1 ∨ i = 2 ∨ i = 3 ∨ i = 4 ∨ i = 5 := by omega
    rcases hc with rfl | rfl | rfl | rfl | rfl | rfl
    · simp only [subW]
      go_wp2_with fail
      try go_region
      all_goals go_wp2_with fail
      all_goals exact ⟨⟨1, m + 1, by omega, rfl, rfl⟩, by decide⟩
    · simp only [subW]
      go_wp2_with fail
      try go_region
      all_goals go_wp2_with fail
      all_goals exact ⟨⟨2, m + 1, by omega, rfl, rfl⟩, by decide⟩
    · simp only [subW]
      go_wp2_with fail
      try go_region
      all_goals go_wp2_with fail
      all_goals exact ⟨⟨3, m + 1, by omega, rfl, rfl⟩, by decide⟩
    · simp only [subW]
      go_wp2_with fail
      try go_region
      all_goals go_wp2_with fail
      all_goals exact ⟨⟨4, m + 1, by omega, rfl, rfl⟩, by decide⟩
    · simp only [subW]
      go_wp2_with fail
      try go_region
      all_goals go_wp2_with fail
      all_goals exact ⟨⟨5, m + 1, by omega, rfl, rfl⟩, by decide⟩
    · simp only [subW]
      go_wp2_with fail
      refine (HC.out _).mono ?_
      rintro e w1 ⟨rfl, hb⟩
      have hrow : w1.heap[w.heap.size + 1 + 1]? = some (.cells #[.int .u64 0, .int .u64 0, .int .u64 0, .int .u64 0, .int .u64 0] 27 (0, 0)) := (hb.block _ (by simp)).trans (three_new w _ _ _)
      have HBel := Aside0.mk ((bel_drewN (bel_three w _ _ _) m).trans (hb.mono (bel_drewN (bel_three w _ _ _) m).size))
      have hlt : w.heap.size + 1 + 1 < w1.heap.size := (Array.getElem?_eq_some_iff.1 hrow).1
      clear hb HC
      generalize ht : carriedZ (x0 + (9007199254740916 - z0)) (x1 + (9007199254740988 - z1)) (x2 + (9007199254740988 - z2)) (x3 + (9007199254740988 - z3)) (x4 + (9007199254740988 - z4)) = t
      obtain ⟨t0, t1, t2, t3, t4⟩ := t
      have HT := Aside0.mk ht
      clear ht
      simp only [E5t, E5]
      have k0 := cell_of_row w1 _ 0 _ _ _ hrow
      have k1 := cell_of_row w1 _ 1 _ _ _ hrow
      have k2 := cell_of_row w1 _ 2 _ _ _ hrow
      have k3 := cell_of_row w1 _ 3 _ _ _ hrow
      have k4 := cell_of_row w1 _ 4 _ _ _ hrow
      have f0 := frozen_of_row w1 _ 0 _ _ hrow
      have f1 := frozen_of_row w1 _ 1 _ _ hrow
      have f2 := frozen_of_row w1 _ 2 _ _ hrow
      have f3 := frozen_of_row w1 _ 3 _ _ hrow
      have f4 := frozen_of_row w1 _ 4 _ _ hrow
      go_wp2_with fail
      refine bodyPost_ret (results_cell_row rfl _ _ (w.heap.size + 1 + 1) 27 #[.int .u64 t0, .int .u64 t1, .int .u64 t2, .int .u64 t3, .int .u64 t4] (0, 0) _ rfl (set5_row hrow) Try.underlying27 rfl (by kernel_rfl)) rfl ?_
      exact ⟨by rw [HT.out]; rfl, set5_bel HBel.out (by omega)⟩
end Go.Proofs.Ythonoagpiofojaa.P
