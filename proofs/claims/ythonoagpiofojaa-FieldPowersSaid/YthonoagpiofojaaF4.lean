/- field.Neg by its walk. -/
import Derived.Test.YthonoagpiofojaaF3
namespace Go.Proofs.Ythonoagpiofojaa.P
set_option linter.unusedVariables false
set_option linter.unusedSimpArgs false
open Go.RowKit
attribute [local go_sem] setCell_drewN
theorem neg_calls (z0 z1 z2 z3 z4 : Int) (w : World) (hz : ∀ x ∈ [z0, z1, z2, z3, z4], 0 ≤ x ∧ x < 4503599627370496) :
    Calls Try.prog 24 #[E5 z0 z1 z2 z3 z4] w fun e w' => e = .returned (E5t (carriedZ (0 + (9007199254740916 - z0)) (0 + (9007199254740988 - z1)) (0 + (9007199254740988 - z2)) (0 + (9007199254740988 - z3)) (0 + (9007199254740988 - z4)))) ∧ Below w.heap.size w w' := by
  have HC := Aside0.mk (fun w => sub_calls 0 0 0 0 0 z0 z1 z2 z3 z4 w (by intro x hx; simp only [List.mem_cons, List.not_mem_nil, or_false, or_self] at hx; omega) hz)
  clear hz
  generalize ht : carriedZ (0 + (9007199254740916 - z0)) (0 + (9007199254740988 - z1)) (0 + (9007199254740988 - z2)) (0 + (9007199254740988 - z3)) (0 + (9007199254740988 - z4)) = t at HC
  clear ht
  obtain ⟨t0, t1, t2, t3, t4⟩ := t
  simp only [E5t, E5] at HC ⊢
  go_enter Try.func24, Try.ntmps24
  go_wp2_with fail
  refine (HC.out _).mono ?_
  rintro e w1 ⟨rfl, hb⟩
  have hrow : w1.heap[w.heap.size + 1]? = some (.cells #[.int .u64 0, .int .u64 0, .int .u64 0, .int .u64 0, .int .u64 0] 27 (0, 0)) := (hb.block _ (by simp)).trans (heap_alloc2_new w _ _)
  have HBel := Aside0.mk ((bel_two w _ _).trans (hb.mono (bel_two w _ _).size))
  have hlt : w.heap.size + 1 < w1.heap.size := (Array.getElem?_eq_some_iff.1 hrow).1
  clear hb HC
  have k0 := cell_of_row w1 _ 0 _ _ _ hrow
  have k1 := cell_of_row w1 _ 1 _ _ _ hrow
  have k2 := cell_of_row w1 _ 2 _ _ _ hrow
  have k3 := cell_of_row w1 _ 3 _ _ _ hrow
  have k4 := cell_of_row w1 _ 4 _ _ _ hrow
  have f0 := frozen_of_row w1 _ 0 _ _ hrow
  have f1 := frozen_of_row w1 _ 1 _ _ hrow
  have f2 := frozen_of_row w1 _ 2 _ _ hrow
  have f3 := frozen_of_row w1 _ 3 _ _ hrow
  have f4 := frozen_of_row w1 _ 4 _ _ hrow
  go_wp2_with fail
  refine bodyPost_ret (results_cell_row rfl _ _ (w.heap.size + 1) 27 #[.int .u64 t0, .int .u64 t1, .int .u64 t2, .int .u64 t3, .int .u64 t4] (0, 0) _ rfl (set5_row hrow) Try.underlying27 rfl (by kernel_rfl)) rfl ?_
  exact ⟨rfl, set5_bel HBel.out (by omega)⟩
end Go.Proofs.Ythonoagpiofojaa.P
