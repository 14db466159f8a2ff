/- field.Of by its walk. -/
import Derived.Test.YthonoagpiofojaaF5
import Derived.Deep.RegionWith
import Derived.Deep.RegionHeld3
namespace Go.Proofs.Ythonoagpiofojaa.P
set_option linter.unusedVariables false
set_option linter.unusedSimpArgs false
open Go.RowKit
attribute [local go_sem] setCell_drewN
/-- 32 bytes as cells. -/
def B32 (b : Nat → Int) : Array Value := #[.int .u8 (b 0), .int .u8 (b 1), .int .u8 (b 2), .int .u8 (b 3), .int .u8 (b 4), .int .u8 (b 5), .int .u8 (b 6), .int .u8 (b 7), .int .u8 (b 8), .int .u8 (b 9), .int .u8 (b 10), .int .u8 (b 11), .int .u8 (b 12), .int .u8 (b 13), .int .u8 (b 14), .int .u8 (b 15), .int .u8 (b 16), .int .u8 (b 17), .int .u8 (b 18), .int .u8 (b 19), .int .u8 (b 20), .int .u8 (b 21), .int .u8 (b 22), .int .u8 (b 23), .int .u8 (b 24), .int .u8 (b 25), .int .u8 (b 26), .int .u8 (b 27), .int .u8 (b 28), .int .u8 (b 29), .int .u8 (b 30), .int .u8 (b 31)]
theorem B32_at (b : Nat → Int) : ∀ j, j < 32 → (B32 b)[j]? = some (.int .u8 (b j)) := by
  intro j hj
  have h : j = 0 ∨ j = 1 ∨ j = 2 ∨ j = 3 ∨ j = 4 ∨ j = 5 ∨ j = 6 ∨ j = 7 ∨ j = 8 ∨ j = 9 ∨ j = 10 ∨ j = 11 ∨ j = 12 ∨ j = 13 ∨ j = 14 ∨ j = 15 ∨ j = 16 ∨ j = 17 ∨ j = 18 ∨ j = 19 ∨ j = 20 ∨ j = 21 ∨ j = 22 ∨ j = 23 ∨ j = 24 ∨ j = 25 ∨ j = 26 ∨ j = 27 ∨ j = 28 ∨ j = 29 ∨ j = 30 ∨ j = 31 := by omega
  rcases h with rfl | rfl | rfl | rfl | rfl | rfl | rfl | rfl | rfl | rfl | rfl | rfl | rfl | rfl | rfl | rfl | rfl | rfl | rfl | rfl | rfl | rfl | rfl | rfl | rfl | rfl | rfl | rfl | rfl | rfl | rfl | rfl
  all_goals rfl
/-- Eight bytes from place i on, as a number. -/
def L8 (b : Nat → Int) (i : Nat) : Int := ldZ (fun j => b (i + j)) 8
theorem L8_b (b : Nat → Int) (hb : ∀ j, j < 32 → 0 ≤ b j ∧ b j < 256) (i : Nat) (hi : i + 8 ≤ 32) : 0 ≤ L8 b i ∧ L8 b i < 18446744073709551616 := by
  have h := ldZ_b (fun j => b (i + j)) (fun j hj => hb _ (by omega)) 8 (by omega)
  exact h
theorem load_at (b : Nat → Int) (g off n c : Nat) (w : World) (t : TypeId) (hg : w.heap[g]? = some (.cells (B32 b) t (0, 0))) (hoff : off + 8 ≤ 32) (hn : 8 ≤ n) (hb : ∀ j, j < 32 → 0 ≤ b j ∧ b j < 256) :
    Calls Try.prog 35 #[.slice (some ⟨g, off, none⟩) n c] w fun e w' => e = .returned (.int .u64 (L8 b off)) ∧ w' = w :=
  load_calls (fun j => b (off + j)) g off n c w hn (fun j hj => hb _ (by omega)) (fun j hj => (cell_of_row w g (off + j) _ t _ hg).trans (B32_at b _ (by omega)))
theorem alloc_keep {V : World} {g : Nat} {x : Obj} (h : V.heap[g]? = some x) (o : Obj) : (V.alloc o).heap[g]? = some x := by
  have hlt : g < V.heap.size := (Array.getElem?_eq_some_iff.1 h).1
  have e : (V.alloc o).heap[g]? = V.heap[g]? := Below.heap_alloc V o g hlt
  rw [e]; exact h
def ofZ (b : Nat → Int) : Int × Int × Int × Int × Int := carriedZ (L8 b 0 % 2251799813685248 + 19 * (b 31 / 128)) (L8 b 6 / 8 % 2251799813685248) (L8 b 12 / 64 % 2251799813685248) (L8 b 19 / 2 % 2251799813685248) (L8 b 24 / 4096 % 2251799813685248)
set_option maxHeartbeats 1500000 in
theorem of_calls (b : Nat → Int) (w : World) (hb : ∀ j, j < 32 → 0 ≤ b j ∧ b j < 256) :
    Calls Try.prog 13 #[.agg (B32 b)] w fun e w' => e = .returned (E5t (ofZ b)) ∧ Below w.heap.size w w' := by
  have r0 := L8_b b hb 0 (by omega); have r1 := L8_b b hb 6 (by omega); have r2 := L8_b b hb 12 (by omega); have r3 := L8_b b hb 19 (by omega); have r4 := L8_b b hb 24 (by omega); have r5 := hb 31 (by omega)
  have m0 := mask51 (L8 b 0) (by omega) (by omega)
  have m1 := mask51 (L8 b 6 / 8) (by omega) (by omega)
  have m2 := mask51 (L8 b 12 / 64) (by omega) (by omega)
  have m3 := mask51 (L8 b 19 / 2) (by omega) (by omega)
  have m4 := mask51 (L8 b 24 / 4096) (by omega) (by omega)
  have w1 := u64w (b 31 / 128) (by omega) (by omega)
  have w2 := u64w (19 * (b 31 / 128)) (by omega) (by omega)
  have w3 := u64w (L8 b 0 % 2251799813685248 + 19 * (b 31 / 128)) (by omega) (by omega)
  have HC := Aside0.mk (fun w => carried_b (L8 b 0 % 2251799813685248 + 19 * (b 31 / 128)) (L8 b 6 / 8 % 2251799813685248) (L8 b 12 / 64 % 2251799813685248) (L8 b 19 / 2 % 2251799813685248) (L8 b 24 / 4096 % 2251799813685248) w (by intro x hx; simp only [List.mem_cons, List.not_mem_nil, or_false] at hx; omega))
  clear r0 r1 r2 r3 r4 r5
  go_enter Try.func13, Try.ntmps13
  go_wp2_with fail
  have HBb := Aside0.mk hb
  clear hb
  go_region_held3 (fun w' => w'.heap[w.heap.size]? = some (.cells (B32 b) 22 (0, 0))) (first | assumption | exact heap_alloc2_old w _ _ | exact alloc_keep (heap_alloc2_old w _ _) _ | exact alloc_keep (by assumption) _ | go_keep)
    (first | (go_at_call 35; refine (load_at b w.heap.size _ _ _ _ 22 ?h3 ?h1 ?h2 HBb.out).mono ?_; (case h1 => decide); (case h2 => decide); (case h3 => assumption); rintro e w' ⟨rfl, rfl⟩))
  all_goals simp only [B32]
  all_goals go_wp2_with fail
  all_goals refine (HC.out _).mono ?_
  all_goals rintro e w1 ⟨rfl, hb⟩
  all_goals (have hrow : w1.heap[w.heap.size + 1]? = some (.cells #[.int .u64 0, .int .u64 0, .int .u64 0, .int .u64 0, .int .u64 0] 27 (0, 0)) := by
               refine (hb.block _ (by simp)).trans ?_
               first | exact alloc_keep (heap_alloc2_new w _ _) _ | exact alloc_keep (alloc_keep (heap_alloc2_new w _ _) _) _)
  all_goals (have hBel : Below w.heap.size w w1 := by
               have h3 := fun c => (bel_three w (.cells (B32 b) 22) (.cells #[.int .u64 0, .int .u64 0, .int .u64 0, .int .u64 0, .int .u64 0] 27) c)
               first | exact (bel_drewN (h3 _) _).trans (hb.mono (bel_drewN (h3 _) _).size) | exact (h3 _).trans (hb.mono (h3 _).size))
  all_goals have HB1 := Aside0.mk hBel
  all_goals (have hlt : w.heap.size + 1 < w1.heap.size := (Array.getElem?_eq_some_iff.1 hrow).1)
  all_goals clear hb hBel HC
  all_goals generalize ht : carriedZ (L8 b 0 % 2251799813685248 + 19 * (b 31 / 128)) (L8 b 6 / 8 % 2251799813685248) (L8 b 12 / 64 % 2251799813685248) (L8 b 19 / 2 % 2251799813685248) (L8 b 24 / 4096 % 2251799813685248) = t
  all_goals (obtain ⟨t0, t1, t2, t3, t4⟩ := t; have HT := Aside0.mk ht; clear ht; simp only [E5t, E5])
  all_goals have k0 := cell_of_row w1 _ 0 _ _ _ hrow
  all_goals have k1 := cell_of_row w1 _ 1 _ _ _ hrow
  all_goals have k2 := cell_of_row w1 _ 2 _ _ _ hrow
  all_goals have k3 := cell_of_row w1 _ 3 _ _ _ hrow
  all_goals have k4 := cell_of_row w1 _ 4 _ _ _ hrow
  all_goals have f0 := frozen_of_row w1 _ 0 _ _ hrow
  all_goals have f1 := frozen_of_row w1 _ 1 _ _ hrow
  all_goals have f2 := frozen_of_row w1 _ 2 _ _ hrow
  all_goals have f3 := frozen_of_row w1 _ 3 _ _ hrow
  all_goals have f4 := frozen_of_row w1 _ 4 _ _ hrow
  all_goals go_wp2_with fail
  all_goals refine bodyPost_ret (results_cell_row rfl _ _ (w.heap.size + 1) 27 #[.int .u64 t0, .int .u64 t1, .int .u64 t2, .int .u64 t3, .int .u64 t4] (0, 0) _ rfl (set5_row hrow) Try.underlying27 rfl (by kernel_rfl)) rfl ?_
  all_goals exact ⟨by unfold ofZ; rw [HT.out]; rfl, set5_bel HB1.out (by omega)⟩
end Go.Proofs.Ythonoagpiofojaa.P
