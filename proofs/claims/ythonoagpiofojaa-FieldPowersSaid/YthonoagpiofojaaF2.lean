/- field.Small, Add, Sub, Neg by their walks. -/
import Derived.Test.YthonoagpiofojaaF1
namespace Go.Proofs.Ythonoagpiofojaa.P
set_option linter.unusedVariables false
set_option linter.unusedSimpArgs false
open Go.RowKit
attribute [local go_sem] setCell_drewN
theorem small_calls (n : Int) (w : World) (h0 : 0 ≤ n) (h1 : n < 4294967296) :
    Calls Try.prog 11 #[.int .u32 n] w fun e w' => e = .returned (E5 n 0 0 0 0) ∧ Below w.heap.size w w' := by
  have hw : IntKind.u64.wrap n = n := u64w n h0 (by omega)
  go_enter Try.func11, Try.ntmps11
  go_wp2
  refine bodyPost_ret (results_cell_row rfl _ _ w.heap.size 27 #[.int .u64 n, .int .u64 0, .int .u64 0, .int .u64 0, .int .u64 0] (0, 0) _ rfl (heap_alloc_new w _) Try.underlying27 rfl (by kernel_rfl)) rfl ?_
  exact ⟨rfl, (Below.refl _ _).alloc (Nat.le_refl _) _⟩
theorem three_new (w : World) (a b c : Obj) : (((w.alloc a).alloc b).alloc c).heap[w.heap.size + 1 + 1]? = some c := by
  have h := heap_alloc_new ((w.alloc a).alloc b) c
  have e : ((w.alloc a).alloc b).heap.size = w.heap.size + 1 + 1 := by simp
  rwa [e] at h
theorem bel_three (w : World) (a b c : Obj) : Below w.heap.size w (((w.alloc a).alloc b).alloc c) := (bel_two w a b).alloc (bel_two w a b).size c
theorem set5_row {w : World} {g : Nat} {t0 t1 t2 t3 t4 a0 a1 a2 a3 a4 : Value} {t : TypeId} (h : w.heap[g]? = some (.cells #[a0, a1, a2, a3, a4] t (0, 0))) :
    (((((w.setCell ⟨g, 0, none⟩ t0).setCell ⟨g, 1, none⟩ t1).setCell ⟨g, 2, none⟩ t2).setCell ⟨g, 3, none⟩ t3).setCell ⟨g, 4, none⟩ t4).heap[g]? = some (.cells #[t0, t1, t2, t3, t4] t (0, 0)) := by
  have h0 := heap_setCell_same w g 0 _ t t0 h
  have h1 := heap_setCell_same _ g 1 _ t t1 h0
  have h2 := heap_setCell_same _ g 2 _ t t2 h1
  have h3 := heap_setCell_same _ g 3 _ t t3 h2
  have h4 := heap_setCell_same _ g 4 _ t t4 h3
  exact h4
theorem bel_set {B : Nat} {w W : World} (h : Below B w W) (a : Addr) (v : Value) (ha : B ≤ a.block) : Below B w (W.setCell a v) := h.setCell ha v
theorem set5_bel {B g : Nat} {w W : World} {t0 t1 t2 t3 t4 : Value} (h : Below B w W) (hg : B ≤ g) :
    Below B w (((((W.setCell ⟨g, 0, none⟩ t0).setCell ⟨g, 1, none⟩ t1).setCell ⟨g, 2, none⟩ t2).setCell ⟨g, 3, none⟩ t3).setCell ⟨g, 4, none⟩ t4) :=
  bel_set (bel_set (bel_set (bel_set (bel_set h _ _ hg) _ _ hg) _ _ hg) _ _ hg) _ _ hg
def cells5 (y0 y1 y2 y3 y4 : Int) : Obj := .cells #[.int .u64 y0, .int .u64 y1, .int .u64 y2, .int .u64 y3, .int .u64 y4] 27
theorem carried_b (x0 x1 x2 x3 x4 : Int) (w : World) (h : ∀ x ∈ [x0, x1, x2, x3, x4], 0 ≤ x ∧ x ≤ 9223372036854775808) :
    Calls Try.prog 34 #[.agg #[.int .u64 x0, .int .u64 x1, .int .u64 x2, .int .u64 x3, .int .u64 x4]] w fun e w' => e = .returned (E5t (carriedZ x0 x1 x2 x3 x4)) ∧ Below w.heap.size w w' :=
  carried_calls x0 x1 x2 x3 x4 w (h _ (by simp)) (h _ (by simp)) (h _ (by simp)) (h _ (by simp)) (h _ (by simp))
/-- The world of the loop behind i rounds. -/
def addW (w : World) (x0 x1 x2 x3 x4 z0 z1 z2 z3 z4 : Int) : Nat → World
  | 0 => ((w.alloc (.cells #[.int .u64 (x0), .int .u64 (x1), .int .u64 (x2), .int .u64 (x3), .int .u64 (x4)] 27)).alloc (.cells #[.int .u64 z0, .int .u64 z1, .int .u64 z2, .int .u64 z3, .int .u64 z4] 27)).alloc (.cells #[.int .u64 0, .int .u64 0, .int .u64 0, .int .u64 0, .int .u64 0] 27)
  | 1 => ((w.alloc (.cells #[.int .u64 (x0 + z0), .int .u64 (x1), .int .u64 (x2), .int .u64 (x3), .int .u64 (x4)] 27)).alloc (.cells #[.int .u64 z0, .int .u64 z1, .int .u64 z2, .int .u64 z3, .int .u64 z4] 27)).alloc (.cells #[.int .u64 0, .int .u64 0, .int .u64 0, .int .u64 0, .int .u64 0] 27)
  | 2 => ((w.alloc (.cells #[.int .u64 (x0 + z0), .int .u64 (x1 + z1), .int .u64 (x2), .int .u64 (x3), .int .u64 (x4)] 27)).alloc (.cells #[.int .u64 z0, .int .u64 z1, .int .u64 z2, .int .u64 z3, .int .u64 z4] 27)).alloc (.cells #[.int .u64 0, .int .u64 0, .int .u64 0, .int .u64 0, .int .u64 0] 27)
  | 3 => ((w.alloc (.cells #[.int .u64 (x0 + z0), .int .u64 (x1 + z1), .int .u64 (x2 + z2), .int .u64 (x3), .int .u64 (x4)] 27)).alloc (.cells #[.int .u64 z0, .int .u64 z1, .int .u64 z2, .int .u64 z3, .int .u64 z4] 27)).alloc (.cells #[.int .u64 0, .int .u64 0, .int .u64 0, .int .u64 0, .int .u64 0] 27)
  | 4 => ((w.alloc (.cells #[.int .u64 (x0 + z0), .int .u64 (x1 + z1), .int .u64 (x2 + z2), .int .u64 (x3 + z3), .int .u64 (x4)] 27)).alloc (.cells #[.int .u64 z0, .int .u64 z1, .int .u64 z2, .int .u64 z3, .int .u64 z4] 27)).alloc (.cells #[.int .u64 0, .int .u64 0, .int .u64 0, .int .u64 0, .int .u64 0] 27)
  | _ => ((w.alloc (.cells #[.int .u64 (x0 + z0), .int .u64 (x1 + z1), .int .u64 (x2 + z2), .int .u64 (x3 + z3), .int .u64 (x4 + z4)] 27)).alloc (.cells #[.int .u64 z0, .int .u64 z1, .int .u64 z2, .int .u64 z3, .int .u64 z4] 27)).alloc (.cells #[.int .u64 0, .int .u64 0, .int .u64 0, .int .u64 0, .int .u64 0] 27)
def addRel (w : World) (x0 x1 x2 x3 x4 z0 z1 z2 z3 z4 : Int) (v6 : Value) (wr : World) : Prop :=
  ∃ (i m : Nat), i ≤ 5 ∧ v6 = .int .i64 (i : Int) ∧ wr = (addW w x0 x1 x2 x3 x4 z0 z1 z2 z3 z4 i).drewN m
theorem add_calls (x0 x1 x2 x3 x4 z0 z1 z2 z3 z4 : Int) (w : World) (hx : ∀ x ∈ [x0, x1, x2, x3, x4], 0 ≤ x ∧ x < 4503599627370496) (hz : ∀ x ∈ [z0, z1, z2, z3, z4], 0 ≤ x ∧ x < 4503599627370496) :
    Calls Try.prog 20 #[E5 x0 x1 x2 x3 x4, E5 z0 z1 z2 z3 z4] w fun e w' => e = .returned (E5t (carriedZ (x0 + z0) (x1 + z1) (x2 + z2) (x3 + z3) (x4 + z4))) ∧ Below w.heap.size w w' := by
  have a0 := hx x0 (by simp); have a1 := hx x1 (by simp); have a2 := hx x2 (by simp); have a3 := hx x3 (by simp); have a4 := hx x4 (by simp)
  have b0 := hz z0 (by simp); have b1 := hz z1 (by simp); have b2 := hz z2 (by simp); have b3 := hz z3 (by simp); have b4 := hz z4 (by simp)
  have w00 : IntKind.u64.wrap (x0 + z0) = x0 + z0 := u64w _ (by omega) (by omega)
  have w10 : IntKind.u64.wrap (x1 + z1) = x1 + z1 := u64w _ (by omega) (by omega)
  have w20 : IntKind.u64.wrap (x2 + z2) = x2 + z2 := u64w _ (by omega) (by omega)
  have w30 : IntKind.u64.wrap (x3 + z3) = x3 + z3 := u64w _ (by omega) (by omega)
  have w40 : IntKind.u64.wrap (x4 + z4) = x4 + z4 := u64w _ (by omega) (by omega)
  have HC := Aside0.mk (fun w => carried_b (x0 + z0) (x1 + z1) (x2 + z2) (x3 + z3) (x4 + z4) w (by intro x hx; simp only [List.mem_cons, List.not_mem_nil, or_false] at hx; omega))
  clear hx hz a0 a1 a2 a3 a4 b0 b1 b2 b3 b4
  unfold E5
  go_enter Try.func20, Try.ntmps20
  go_wp2
  go_loopw [6] (fun v6 wr => addRel w x0 x1 x2 x3 x4 z0 z1 z2 z3 z4 v6 wr) (fun v _ => 5 - (intOf v).toNat)
  case atStart => exact ⟨0, 0, by omega, rfl, rfl⟩
  case round =>
    obtain ⟨i, m, hi, rfl, rfl⟩ := hrel
    have hc : i = 0 ∨ i = 1 ∨ i = 2 ∨ i = 3 ∨ i = 4 ∨ i = 5 := by omega
    rcases hc with rfl | rfl | rfl | rfl | rfl | rfl
    · simp only [addW]
      go_wp2_with fail
      try go_region
      all_goals go_wp2_with fail
      all_goals exact ⟨⟨1, m + 1, by omega, rfl, rfl⟩, by decide⟩
    · simp only [addW]
      go_wp2_with fail
      try go_region
      all_goals go_wp2_with fail
      all_goals exact ⟨⟨2, m + 1, by omega, rfl, rfl⟩, by decide⟩
    · simp only [addW]
      go_wp2_with fail
      try go_region
      all_goals go_wp2_with fail
      all_goals exact ⟨⟨3, m + 1, by omega, rfl, rfl⟩, by decide⟩
    · simp only [addW]
      go_wp2_with fail
      try go_region
      all_goals go_wp2_with fail
      all_goals exact ⟨⟨4, m + 1, by omega, rfl, rfl⟩, by decide⟩
    · simp only [addW]
      go_wp2_with fail
      try go_region
      all_goals go_wp2_with fail
      all_goals exact ⟨⟨5, m + 1, by omega, rfl, rfl⟩, by decide⟩
    · simp only [addW]
      go_wp2_with fail
      refine (HC.out _).mono ?_
      rintro e w1 ⟨rfl, hb⟩
      have hrow : w1.heap[w.heap.size + 1 + 1]? = some (.cells #[.int .u64 0, .int .u64 0, .int .u64 0, .int .u64 0, .int .u64 0] 27 (0, 0)) := (hb.block _ (by simp)).trans (three_new w _ _ _)
      have HBel := Aside0.mk ((bel_drewN (bel_three w _ _ _) m).trans (hb.mono (bel_drewN (bel_three w _ _ _) m).size))
      have hlt : w.heap.size + 1 + 1 < w1.heap.size := (Array.getElem?_eq_some_iff.1 hrow).1
      clear hb HC
      generalize ht : carriedZ (x0 + z0) (x1 + z1) (x2 + z2) (x3 + z3) (x4 + z4) = t
      obtain ⟨t0, t1, t2, t3, t4⟩ := t
      have HT := Aside0.mk ht
      clear ht
      simp only [E5t, E5]
      have k0 := cell_of_row w1 _ 0 _ _ _ hrow
      have k1 := cell_of_row w1 _ 1 _ _ _ hrow
      have k2 := cell_of_row w1 _ 2 _ _ _ hrow
      have k3 := cell_of_row w1 _ 3 _ _ _ hrow
      have k4 := cell_of_row w1 _ 4 _ _ _ hrow
      have f0 := frozen_of_row w1 _ 0 _ _ hrow
      have f1 := frozen_of_row w1 _ 1 _ _ hrow
      have f2 := frozen_of_row w1 _ 2 _ _ hrow
      have f3 := frozen_of_row w1 _ 3 _ _ hrow
      have f4 := frozen_of_row w1 _ 4 _ _ hrow
      go_wp2_with fail
      refine bodyPost_ret (results_cell_row rfl _ _ (w.heap.size + 1 + 1) 27 #[.int .u64 t0, .int .u64 t1, .int .u64 t2, .int .u64 t3, .int .u64 t4] (0, 0) _ rfl (set5_row hrow) Try.underlying27 rfl (by kernel_rfl)) rfl ?_
      exact ⟨by rw [HT.out]; rfl, set5_bel HBel.out (by omega)⟩
end Go.Proofs.Ythonoagpiofojaa.P
